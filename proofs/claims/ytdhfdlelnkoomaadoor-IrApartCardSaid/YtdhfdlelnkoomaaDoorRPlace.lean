/- bare, regs: over this seat's program. -/
import Derived.Test.YtdhfdlelnkoomaaDoorRBase
namespace Go.Proofs.YtdhfdlelnkoomaaDoor
open Go.RowKit
set_option linter.unusedVariables false
set_option maxRecDepth 100000

def plV (f : Ins) (i n : Int) : List Value := insV f ++ [.int .i64 i, .int .i64 n]
def plA (f : Ins) (i n : Int) : Value := .agg (plV f i n).toArray
def bareI (f : Ins) : Ins := { op := f.op, what := 0, nar := false, d := 0, a := 0, b := 0, n := 0, size := 0, to := 0 }
theorem bare_any (f : Ins) (i n : Int) (w : World) : Calls Tryd.prog 52 #[plA f i n] w fun e w' => e = .returned (insA (bareI f)) ∧ Below w.heap.size w w' := by
  unfold plA plV insV
  go_enter Tryd.func52, Tryd.ntmps52
  go_wp2_with fail
  exact bodyPost_ret (v := insA (bareI f)) (by simp [results, Tryd.results52, go_sem, insA, insV, bareI]) rfl ⟨rfl, ((Below.refl _ _).alloc (Nat.le_refl _) _).alloc (by simp) _⟩
theorem regs_any (l : List Int) (a : Addr) (c : Nat) (w : World) (hc : ∀ j z, l[j]? = some z → w.cell? (a.add j) = some (.int .i64 z)) (hl : l.length ≤ 100) (hlc : l.length ≤ c) :
    Calls Tryd.prog 53 #[.slice (some a) l.length c] w fun e w' => e = .returned (.bool (l.all regP)) ∧ w = w' := by
  go_enter Tryd.func53, Tryd.ntmps53
  go_wp2_with fail
  go_loop [7] (fun v => ∃ k : Nat, k ≤ l.length ∧ v = .int .i64 k ∧ Hid (∀ j z, j < k → l[j]? = some z → regP z = true)) (fun v => l.length - (intOf v).toNat)
  case atStart => exact ⟨0, Nat.zero_le _, rfl, fun j z hj => absurd hj (by omega)⟩
  case round =>
    obtain ⟨k, hk, rfl, hA⟩ := hrel
    by_cases hlt : k < l.length
    · have d1 : decide ((k : Int) < (l.length : Int)) = true := decide_eq_true (by omega)
      have hz := List.getElem?_eq_getElem hlt
      generalize l[k] = z at hz
      have ck := hc k z hz
      have HZ := Lib.hid hz
      have HC := Lib.hid hc
      clear hz hc
      by_cases hr : regP z = true
      · have hr' : 0 ≤ z ∧ z ≤ 15 := by simpa [regP] using hr
        obtain ⟨r1, r2⟩ := hr'
        have e1 : decide (z < 0) = false := decide_eq_false (by omega)
        have e2 : decide (15 < z) = false := decide_eq_false (by omega)
        have HR := Lib.hid hr
        clear hr
        go_wp2_with fail
        go_round
        case rel => exact ⟨k + 1, by omega, by go_num, Lib.hid (fun j y hj hy => by rcases Nat.lt_or_ge j k with h | h; (exact hA.out j y h hy); (obtain rfl : j = k := by omega); rw [HZ.out] at hy; injection hy with hy; rw [← hy]; exact HR.out)⟩
        case measure => simp [intOf]; omega
      · have HF : Hid (l.all regP = false) := Lib.hid (by
          rw [List.all_eq_false]
          exact ⟨z, List.mem_of_getElem? HZ.out, hr⟩)
        have hr' : z < 0 ∨ 15 < z := by simp [regP] at hr; omega
        clear hr
        by_cases h0 : z < 0
        · have e1 : decide (z < 0) = true := decide_eq_true h0
          go_wp2_with fail
          go_ret
          exact ⟨by rw [HF.out]; rfl, rfl⟩
        · have e1 : decide (z < 0) = false := decide_eq_false h0
          have e2 : decide (15 < z) = true := decide_eq_true (by omega)
          go_wp2_with fail
          go_ret
          exact ⟨by rw [HF.out]; rfl, rfl⟩
    · have d1 : decide ((k : Int) < (l.length : Int)) = false := decide_eq_false (by omega)
      go_wp2_with fail
      go_ret
      refine ⟨?_, rfl⟩
      have : l.all regP = true := by
        rw [List.all_eq_true]
        intro z hz
        obtain ⟨j, hj⟩ := List.mem_iff_getElem?.1 hz
        exact hA.out j z (by have := (List.getElem?_eq_some_iff.1 hj).1; omega) hj
      rw [this]; rfl
end Go.Proofs.YtdhfdlelnkoomaaDoor
