/- net: how links are told apart. -/
import Derived.Test.YtenkhbiikecegaaGreatNSend
import Derived.LoopN
namespace Go.Proofs.YtenkhbiikecegaaGreat
open Go.RowKit Go.Maps Go.ChangeMaps
set_option linter.unusedVariables false
set_option linter.unusedSimpArgs false
set_option maxRecDepth 100000

def cmpI (x y : Int) : Int := if x < y then -1 else if y < x then 1 else 0
def orI (x y : Int) : Int := if x = 0 then y else x
def cmpL (x y : Int × Int) : Int := orI (cmpI x.1 y.1) (cmpI x.2 y.2)
theorem isNaN_any (x : Int) (w : World) : Calls Tryz.prog 48 #[.int .i64 x] w fun e w' => e = .returned (.bool false) ∧ w = w' := by
  go_enter Tryz.func48, Tryz.ntmps48
  go_wp2_with fail
  go_ret
  exact ⟨rfl, rfl⟩
theorem cmp_any (x y : Int) (w : World) : Calls Tryz.prog 33 #[.int .i64 x, .int .i64 y] w fun e w' => e = .returned (.int .i64 (cmpI x y)) ∧ w = w' := by
  have h1 := fun W => isNaN_any x W
  have h2 := fun W => isNaN_any y W
  by_cases hx : x < y
  · have HC := Lib.hid (show cmpI x y = -1 by simp [cmpI, hx])
    have d1 : decide (x < y) = true := decide_eq_true hx
    go_enter Tryz.func33, Tryz.ntmps33
    go_wp2_with (((with_reducible refine (isNaN_any _ _).mono ?_); rintro _ w_ ⟨rfl, rfl⟩))
    go_ret
    exact ⟨by rw [HC.out]; rfl, rfl⟩
  · have d1 : decide (x < y) = false := decide_eq_false hx
    by_cases hy : y < x
    · have HC := Lib.hid (show cmpI x y = 1 by simp [cmpI, hx, hy])
      have d2 : decide (y < x) = true := decide_eq_true hy
      go_enter Tryz.func33, Tryz.ntmps33
      go_wp2_with (((with_reducible refine (isNaN_any _ _).mono ?_); rintro _ w_ ⟨rfl, rfl⟩))
      go_ret
      exact ⟨by rw [HC.out]; rfl, rfl⟩
    · have HC := Lib.hid (show cmpI x y = 0 by simp [cmpI, hx, hy])
      have d2 : decide (y < x) = false := decide_eq_false hy
      go_enter Tryz.func33, Tryz.ntmps33
      go_wp2_with (((with_reducible refine (isNaN_any _ _).mono ?_); rintro _ w_ ⟨rfl, rfl⟩))
      go_ret
      exact ⟨by rw [HC.out]; rfl, rfl⟩
theorem or_any (g : Nat) (x y : Int) (w : World) (h : Bk w g 3 [.int .i64 x, .int .i64 y]) : Calls Tryz.prog 32 #[.slice (some ⟨g, 0, none⟩) 2 2] w fun e w' => e = .returned (.int .i64 (orI x y)) ∧ w = w' := by
  have c0 := h.cell 0
  have c1 := h.cell 1
  simp only [List.getElem?_cons_zero, List.getElem?_cons_succ] at c0 c1
  by_cases hx : x = 0
  · subst hx
    rw [show orI 0 y = y from if_pos rfl]
    by_cases hy : y = 0
    · subst hy
      go_enter Tryz.func32, Tryz.ntmps32
      go_wp2_with fail
      refine wp_loop_rounds 3 ?_
      repeat (rw [rounds_succ]; go_wp2_with fail)
      go_ret
      exact ⟨rfl, rfl⟩
    · have d : (y == 0) = false := by simpa using hy
      have HY := Lib.hid hy
      clear hy
      go_enter Tryz.func32, Tryz.ntmps32
      go_wp2_with fail
      refine wp_loop_rounds 3 ?_
      repeat (rw [rounds_succ]; go_wp2_with fail)
      go_ret
      exact ⟨rfl, rfl⟩
  · rw [show orI x y = x from if_neg hx]
    have d : (x == 0) = false := by simpa using hx
    have HX := Lib.hid hx
    clear hx
    go_enter Tryz.func32, Tryz.ntmps32
    go_wp2_with fail
    refine wp_loop_rounds 3 ?_
    repeat (rw [rounds_succ]; go_wp2_with fail)
    go_ret
    exact ⟨rfl, rfl⟩
end Go.Proofs.YtenkhbiikecegaaGreat
