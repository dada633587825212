/- alu.do at whatever operator; alu.Do; over this seat's program. -/
import Derived.Test.YtlfgddljmcgggaaDoA
import Derived.Test.YtlfgddljmcgggaaDoB
import Derived.Laws.BitsAllLaws
namespace Go.Proofs.Ytlfgddljmcgggaa
open Go.RowKit
set_option linter.unusedVariables false

/-- The error of an operator. -/
def dErr (op b : Int) : Int := if 1 ≤ op ∧ op ≤ 13 then (if (op = 4 ∨ op = 5) ∧ b = 0 then 113 else 0) else 2
/-- What an operator tells, of numbers of some width. -/
def dVal (k s : IntKind) (sz op a b : Int) : Int := if dErr op b = 0 then opV k s sz op.toNat a b else 0

theorem do32_any (op a b : Int) (w : World) (ha0 : 0 ≤ a) (ha1 : a ≤ 4294967295) (hb0 : 0 ≤ b) (hb1 : b ≤ 4294967295) :
    Calls Try.prog 15 #[.int .u8 op, .int .u32 32, .int .u32 a, .int .u32 b] w fun e w' => e = .returned (.tuple #[.int .u32 (dVal .u32 .i32 32 op a b), .int .i64 (dErr op b)]) ∧ Below w.heap.size w w' := by
  by_cases h : 1 ≤ op ∧ op ≤ 13
  · have hc : op = 1 ∨ op = 2 ∨ op = 3 ∨ op = 4 ∨ op = 5 ∨ op = 6 ∨ op = 7 ∨ op = 8 ∨ op = 9 ∨ op = 10 ∨ op = 11 ∨ op = 12 ∨ op = 13 := by omega
    rcases hc with rfl | rfl | rfl | rfl | rfl | rfl | rfl | rfl | rfl | rfl | rfl | rfl | rfl
    · have e1 : dErr 1 b = 0 := by simp [dErr]
      have e2 : dVal .u32 .i32 32 1 a b = opV .u32 .i32 32 1 a b := by unfold dVal; rw [e1]; simp
      rw [e1, e2]
      exact do32_1 a b w ha0 ha1 hb0 hb1
    · have e1 : dErr 2 b = 0 := by simp [dErr]
      have e2 : dVal .u32 .i32 32 2 a b = opV .u32 .i32 32 2 a b := by unfold dVal; rw [e1]; simp
      rw [e1, e2]
      exact do32_2 a b w ha0 ha1 hb0 hb1
    · have e1 : dErr 3 b = 0 := by simp [dErr]
      have e2 : dVal .u32 .i32 32 3 a b = opV .u32 .i32 32 3 a b := by unfold dVal; rw [e1]; simp
      rw [e1, e2]
      exact do32_3 a b w ha0 ha1 hb0 hb1
    · by_cases hz : b = 0
      · subst hz
        have e1 : dErr 4 0 = 113 := by decide
        have e2 : dVal .u32 .i32 32 4 a 0 = 0 := by unfold dVal; rw [e1]; simp
        rw [e1, e2]
        exact do32_z4 a w
      · have e1 : dErr 4 b = 0 := by simp [dErr, hz]
        have e2 : dVal .u32 .i32 32 4 a b = opV .u32 .i32 32 4 a b := by unfold dVal; rw [e1]; simp
        rw [e1, e2]
        exact do32_4 a b w ha0 ha1 hb0 hb1 (by omega)
    · by_cases hz : b = 0
      · subst hz
        have e1 : dErr 5 0 = 113 := by decide
        have e2 : dVal .u32 .i32 32 5 a 0 = 0 := by unfold dVal; rw [e1]; simp
        rw [e1, e2]
        exact do32_z5 a w
      · have e1 : dErr 5 b = 0 := by simp [dErr, hz]
        have e2 : dVal .u32 .i32 32 5 a b = opV .u32 .i32 32 5 a b := by unfold dVal; rw [e1]; simp
        rw [e1, e2]
        exact do32_5 a b w ha0 ha1 hb0 hb1 (by omega)
    · have e1 : dErr 6 b = 0 := by simp [dErr]
      have e2 : dVal .u32 .i32 32 6 a b = opV .u32 .i32 32 6 a b := by unfold dVal; rw [e1]; simp
      rw [e1, e2]
      exact do32_6 a b w ha0 ha1 hb0 hb1
    · have e1 : dErr 7 b = 0 := by simp [dErr]
      have e2 : dVal .u32 .i32 32 7 a b = opV .u32 .i32 32 7 a b := by unfold dVal; rw [e1]; simp
      rw [e1, e2]
      exact do32_7 a b w ha0 ha1 hb0 hb1
    · have e1 : dErr 8 b = 0 := by simp [dErr]
      have e2 : dVal .u32 .i32 32 8 a b = opV .u32 .i32 32 8 a b := by unfold dVal; rw [e1]; simp
      rw [e1, e2]
      exact do32_8 a b w ha0 ha1 hb0 hb1
    · have e1 : dErr 9 b = 0 := by simp [dErr]
      have e2 : dVal .u32 .i32 32 9 a b = opV .u32 .i32 32 9 a b := by unfold dVal; rw [e1]; simp
      rw [e1, e2]
      exact do32_9 a b w ha0 ha1 hb0 hb1
    · have e1 : dErr 10 b = 0 := by simp [dErr]
      have e2 : dVal .u32 .i32 32 10 a b = opV .u32 .i32 32 10 a b := by unfold dVal; rw [e1]; simp
      rw [e1, e2]
      exact do32_10 a b w ha0 ha1 hb0 hb1
    · have e1 : dErr 11 b = 0 := by simp [dErr]
      have e2 : dVal .u32 .i32 32 11 a b = opV .u32 .i32 32 11 a b := by unfold dVal; rw [e1]; simp
      rw [e1, e2]
      exact do32_11 a b w ha0 ha1 hb0 hb1
    · have e1 : dErr 12 b = 0 := by simp [dErr]
      have e2 : dVal .u32 .i32 32 12 a b = opV .u32 .i32 32 12 a b := by unfold dVal; rw [e1]; simp
      rw [e1, e2]
      exact do32_12 a b w ha0 ha1 hb0 hb1
    · have e1 : dErr 13 b = 0 := by simp [dErr]
      have e2 : dVal .u32 .i32 32 13 a b = opV .u32 .i32 32 13 a b := by unfold dVal; rw [e1]; simp
      rw [e1, e2]
      exact do32_13 a b w ha0 ha1 hb0 hb1
  · have e1 : dErr op b = 2 := by simp [dErr, h]
    have e2 : dVal .u32 .i32 32 op a b = 0 := by unfold dVal; rw [e1]; simp
    rw [e1, e2]
    exact do32_no op a b w (beq_eq_false_iff_ne.2 (by omega)) (beq_eq_false_iff_ne.2 (by omega)) (beq_eq_false_iff_ne.2 (by omega)) (beq_eq_false_iff_ne.2 (by omega)) (beq_eq_false_iff_ne.2 (by omega)) (beq_eq_false_iff_ne.2 (by omega)) (beq_eq_false_iff_ne.2 (by omega)) (beq_eq_false_iff_ne.2 (by omega)) (beq_eq_false_iff_ne.2 (by omega)) (beq_eq_false_iff_ne.2 (by omega)) (beq_eq_false_iff_ne.2 (by omega)) (beq_eq_false_iff_ne.2 (by omega)) (beq_eq_false_iff_ne.2 (by omega))

theorem do64_any (op a b : Int) (w : World) (ha0 : 0 ≤ a) (ha1 : a ≤ 18446744073709551615) (hb0 : 0 ≤ b) (hb1 : b ≤ 18446744073709551615) :
    Calls Try.prog 16 #[.int .u8 op, .int .u64 64, .int .u64 a, .int .u64 b] w fun e w' => e = .returned (.tuple #[.int .u64 (dVal .u64 .i64 64 op a b), .int .i64 (dErr op b)]) ∧ Below w.heap.size w w' := by
  by_cases h : 1 ≤ op ∧ op ≤ 13
  · have hc : op = 1 ∨ op = 2 ∨ op = 3 ∨ op = 4 ∨ op = 5 ∨ op = 6 ∨ op = 7 ∨ op = 8 ∨ op = 9 ∨ op = 10 ∨ op = 11 ∨ op = 12 ∨ op = 13 := by omega
    rcases hc with rfl | rfl | rfl | rfl | rfl | rfl | rfl | rfl | rfl | rfl | rfl | rfl | rfl
    · have e1 : dErr 1 b = 0 := by simp [dErr]
      have e2 : dVal .u64 .i64 64 1 a b = opV .u64 .i64 64 1 a b := by unfold dVal; rw [e1]; simp
      rw [e1, e2]
      exact do64_1 a b w ha0 ha1 hb0 hb1
    · have e1 : dErr 2 b = 0 := by simp [dErr]
      have e2 : dVal .u64 .i64 64 2 a b = opV .u64 .i64 64 2 a b := by unfold dVal; rw [e1]; simp
      rw [e1, e2]
      exact do64_2 a b w ha0 ha1 hb0 hb1
    · have e1 : dErr 3 b = 0 := by simp [dErr]
      have e2 : dVal .u64 .i64 64 3 a b = opV .u64 .i64 64 3 a b := by unfold dVal; rw [e1]; simp
      rw [e1, e2]
      exact do64_3 a b w ha0 ha1 hb0 hb1
    · by_cases hz : b = 0
      · subst hz
        have e1 : dErr 4 0 = 113 := by decide
        have e2 : dVal .u64 .i64 64 4 a 0 = 0 := by unfold dVal; rw [e1]; simp
        rw [e1, e2]
        exact do64_z4 a w
      · have e1 : dErr 4 b = 0 := by simp [dErr, hz]
        have e2 : dVal .u64 .i64 64 4 a b = opV .u64 .i64 64 4 a b := by unfold dVal; rw [e1]; simp
        rw [e1, e2]
        exact do64_4 a b w ha0 ha1 hb0 hb1 (by omega)
    · by_cases hz : b = 0
      · subst hz
        have e1 : dErr 5 0 = 113 := by decide
        have e2 : dVal .u64 .i64 64 5 a 0 = 0 := by unfold dVal; rw [e1]; simp
        rw [e1, e2]
        exact do64_z5 a w
      · have e1 : dErr 5 b = 0 := by simp [dErr, hz]
        have e2 : dVal .u64 .i64 64 5 a b = opV .u64 .i64 64 5 a b := by unfold dVal; rw [e1]; simp
        rw [e1, e2]
        exact do64_5 a b w ha0 ha1 hb0 hb1 (by omega)
    · have e1 : dErr 6 b = 0 := by simp [dErr]
      have e2 : dVal .u64 .i64 64 6 a b = opV .u64 .i64 64 6 a b := by unfold dVal; rw [e1]; simp
      rw [e1, e2]
      exact do64_6 a b w ha0 ha1 hb0 hb1
    · have e1 : dErr 7 b = 0 := by simp [dErr]
      have e2 : dVal .u64 .i64 64 7 a b = opV .u64 .i64 64 7 a b := by unfold dVal; rw [e1]; simp
      rw [e1, e2]
      exact do64_7 a b w ha0 ha1 hb0 hb1
    · have e1 : dErr 8 b = 0 := by simp [dErr]
      have e2 : dVal .u64 .i64 64 8 a b = opV .u64 .i64 64 8 a b := by unfold dVal; rw [e1]; simp
      rw [e1, e2]
      exact do64_8 a b w ha0 ha1 hb0 hb1
    · have e1 : dErr 9 b = 0 := by simp [dErr]
      have e2 : dVal .u64 .i64 64 9 a b = opV .u64 .i64 64 9 a b := by unfold dVal; rw [e1]; simp
      rw [e1, e2]
      exact do64_9 a b w ha0 ha1 hb0 hb1
    · have e1 : dErr 10 b = 0 := by simp [dErr]
      have e2 : dVal .u64 .i64 64 10 a b = opV .u64 .i64 64 10 a b := by unfold dVal; rw [e1]; simp
      rw [e1, e2]
      exact do64_10 a b w ha0 ha1 hb0 hb1
    · have e1 : dErr 11 b = 0 := by simp [dErr]
      have e2 : dVal .u64 .i64 64 11 a b = opV .u64 .i64 64 11 a b := by unfold dVal; rw [e1]; simp
      rw [e1, e2]
      exact do64_11 a b w ha0 ha1 hb0 hb1
    · have e1 : dErr 12 b = 0 := by simp [dErr]
      have e2 : dVal .u64 .i64 64 12 a b = opV .u64 .i64 64 12 a b := by unfold dVal; rw [e1]; simp
      rw [e1, e2]
      exact do64_12 a b w ha0 ha1 hb0 hb1
    · have e1 : dErr 13 b = 0 := by simp [dErr]
      have e2 : dVal .u64 .i64 64 13 a b = opV .u64 .i64 64 13 a b := by unfold dVal; rw [e1]; simp
      rw [e1, e2]
      exact do64_13 a b w ha0 ha1 hb0 hb1
  · have e1 : dErr op b = 2 := by simp [dErr, h]
    have e2 : dVal .u64 .i64 64 op a b = 0 := by unfold dVal; rw [e1]; simp
    rw [e1, e2]
    exact do64_no op a b w (beq_eq_false_iff_ne.2 (by omega)) (beq_eq_false_iff_ne.2 (by omega)) (beq_eq_false_iff_ne.2 (by omega)) (beq_eq_false_iff_ne.2 (by omega)) (beq_eq_false_iff_ne.2 (by omega)) (beq_eq_false_iff_ne.2 (by omega)) (beq_eq_false_iff_ne.2 (by omega)) (beq_eq_false_iff_ne.2 (by omega)) (beq_eq_false_iff_ne.2 (by omega)) (beq_eq_false_iff_ne.2 (by omega)) (beq_eq_false_iff_ne.2 (by omega)) (beq_eq_false_iff_ne.2 (by omega)) (beq_eq_false_iff_ne.2 (by omega))


theorem wrap_u32_range (x : Int) : 0 ≤ IntKind.u32.wrap x ∧ IntKind.u32.wrap x ≤ 4294967295 := by rw [IntKind.wrap_u32]; omega
theorem wrap_u64_range (x : Int) : 0 ≤ IntKind.u64.wrap x ∧ IntKind.u64.wrap x ≤ 18446744073709551615 := by rw [IntKind.wrap_u64]; omega
theorem div_pow_range (a : Int) (n : Nat) (M : Int) (h0 : 0 ≤ a) (h1 : a ≤ M) : 0 ≤ a / 2 ^ n ∧ a / 2 ^ n ≤ M := by
  have hp : (0 : Int) < 2 ^ n := Int.pow_pos (by omega)
  exact ⟨Int.ediv_nonneg h0 (by omega), Int.le_trans (Int.ediv_le_self _ h0) h1⟩
theorem div_range (a b M : Int) (h0 : 0 ≤ a) (h1 : a ≤ M) (hb : 0 ≤ b) : 0 ≤ a / b ∧ a / b ≤ M :=
  ⟨Int.ediv_nonneg h0 hb, Int.le_trans (Int.ediv_le_self _ h0) h1⟩
theorem mod_range (a b M : Int) (h0 : 0 ≤ a) (h1 : a ≤ M) (hb : 0 ≤ b) : 0 ≤ a % b ∧ a % b ≤ M := by
  rcases Int.lt_or_eq_of_le hb with h | h
  · refine ⟨Int.emod_nonneg _ (by omega), ?_⟩
    have := Int.emod_nonneg a (show b ≠ 0 by omega)
    have h2 := Int.mul_ediv_add_emod a b
    have h3 := Int.mul_nonneg hb (Int.ediv_nonneg h0 hb)
    omega
  · subst h; simp; omega
theorem opV32_range (i : Nat) (a b : Int) (ha0 : 0 ≤ a) (ha1 : a ≤ 4294967295) (hb0 : 0 ≤ b) (hb1 : b ≤ 4294967295) : 0 ≤ opV .u32 .i32 32 i a b ∧ opV .u32 .i32 32 i a b ≤ 4294967295 := by
  unfold opV
  split
  all_goals first
    | exact wrap_u32_range _
    | exact div_range _ _ _ ha0 ha1 hb0
    | exact mod_range _ _ _ ha0 ha1 hb0
    | exact div_pow_range _ _ _ ha0 ha1
    | exact ⟨hb0, hb1⟩
    | (unfold bits; exact wrap_u32_range _)
    | omega
end Go.Proofs.Ytlfgddljmcgggaa
