/- The kinds that load and write: over this seat's program. -/
import Derived.Test.YtdhfdlelnkoomaaDoorRPl1
namespace Go.Proofs.YtdhfdlelnkoomaaDoor
open Go.RowKit
set_option linter.unusedVariables false
set_option maxRecDepth 100000
attribute [local go_sem high] eql_ins
theorem sized_any (f : Ins) (i n : Int) (r : Bool) (hr : Hid (r = sizedP f.size)) (w : World) : Calls Tryd.prog 54 #[plA f i n] w fun e w' => e = .returned (.bool r) ∧ Below w.heap.size w w' := by
  unfold plA plV insV
  go_enter Tryd.func54, Tryd.ntmps54
  by_cases h1 : f.size = 1
  · have HV : Hid (r = true) := Lib.hid (by rw [hr.out, h1]; rfl)
    go_wp2_with fail
    go_ret
    exact ⟨by rw [HV.out]; rfl, (Below.refl _ _).alloc (Nat.le_refl _) _⟩
  by_cases h2 : f.size = 2
  · have HV : Hid (r = true) := Lib.hid (by rw [hr.out, h2]; rfl)
    go_wp2_with fail
    go_ret
    exact ⟨by rw [HV.out]; rfl, (Below.refl _ _).alloc (Nat.le_refl _) _⟩
  by_cases h4 : f.size = 4
  · have HV : Hid (r = true) := Lib.hid (by rw [hr.out, h4]; rfl)
    go_wp2_with fail
    go_ret
    exact ⟨by rw [HV.out]; rfl, (Below.refl _ _).alloc (Nat.le_refl _) _⟩
  by_cases h8 : f.size = 8
  · have HV : Hid (r = true) := Lib.hid (by rw [hr.out, h8]; rfl)
    go_wp2_with fail
    go_ret
    exact ⟨by rw [HV.out]; rfl, (Below.refl _ _).alloc (Nat.le_refl _) _⟩
  have HV : Hid (r = false) := Lib.hid (by rw [hr.out]; simp [sizedP, h1, h2, h4, h8])
  go_wp2_with fail
  go_ret
  exact ⟨by rw [HV.out]; rfl, (Below.refl _ _).alloc (Nat.le_refl _) _⟩
theorem far_any (f : Ins) (i n : Int) (r : Bool) (hr : Hid (r = decide (i < f.to ∧ f.to < n))) (w : World) : Calls Tryd.prog 55 #[plA f i n] w fun e w' => e = .returned (.bool r) ∧ Below w.heap.size w w' := by
  unfold plA plV insV
  go_enter Tryd.func55, Tryd.ntmps55
  by_cases h1 : i < f.to
  · have d1 : decide (i < f.to) = true := decide_eq_true h1
    by_cases h2 : f.to < n
    · have d2 : decide (f.to < n) = true := decide_eq_true h2
      have HV : Hid (r = true) := Lib.hid (by rw [hr.out]; simp [h1, h2])
      go_wp2_with fail
      go_ret
      exact ⟨by rw [HV.out]; rfl, (Below.refl _ _).alloc (Nat.le_refl _) _⟩
    · have d2 : decide (f.to < n) = false := decide_eq_false h2
      have HV : Hid (r = false) := Lib.hid (by rw [hr.out]; simp [h1, h2])
      go_wp2_with fail
      go_ret
      exact ⟨by rw [HV.out]; rfl, (Below.refl _ _).alloc (Nat.le_refl _) _⟩
  · have d1 : decide (i < f.to) = false := decide_eq_false h1
    have HV : Hid (r = false) := Lib.hid (by rw [hr.out]; simp [h1])
    go_wp2_with fail
    go_ret
    exact ⟨by rw [HV.out]; rfl, (Below.refl _ _).alloc (Nat.le_refl _) _⟩
end Go.Proofs.YtdhfdlelnkoomaaDoor
