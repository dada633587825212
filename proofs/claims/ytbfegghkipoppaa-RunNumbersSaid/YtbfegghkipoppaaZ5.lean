/- alu.do at whatever operator; alu.Do; over this seat's program. alu.is. alu.Do, alu.Is, alu.Wide. The reference's bit, each, moved (barbicanref01). The reference's moved (barbicanref01). What the reference reckons is what the program reckons: plain facts, no walk. -/
import Derived.Laws.BitsAllLaws
import Derived.Test.YtbfegghkipoppaaZ3
import Derived.Test.YtbfegghkipoppaaZ4
import Derived.Test.YtbfegghkipoppaaZ2
namespace Go.Proofs.Ytbfegghkipoppaa
set_option maxRecDepth 100000
open Go.RowKit
set_option linter.unusedVariables false

/-- The error of an operator. -/
def dErr (op b : Int) : Int := if 1 ≤ op ∧ op ≤ 13 then (if (op = 4 ∨ op = 5) ∧ b = 0 then 113 else 0) else 2
/-- What an operator tells, of numbers of some width. -/
def dVal (k s : IntKind) (sz op a b : Int) : Int := if dErr op b = 0 then opV k s sz op.toNat a b else 0

theorem do32_any (op a b : Int) (w : World) (ha0 : 0 ≤ a) (ha1 : a ≤ 4294967295) (hb0 : 0 ≤ b) (hb1 : b ≤ 4294967295) :
    Calls Try.prog 65 #[.int .u8 op, .int .u32 32, .int .u32 a, .int .u32 b] w fun e w' => e = .returned (.tuple #[.int .u32 (dVal .u32 .i32 32 op a b), .int .i64 (dErr op b)]) ∧ Below w.heap.size w w' := by
  by_cases h : 1 ≤ op ∧ op ≤ 13
  · have hc : op = 1 ∨ op = 2 ∨ op = 3 ∨ op = 4 ∨ op = 5 ∨ op = 6 ∨ op = 7 ∨ op = 8 ∨ op = 9 ∨ op = 10 ∨ op = 11 ∨ op = 12 ∨ op = 13 := by omega
    rcases hc with rfl | rfl | rfl | rfl | rfl | rfl | rfl | rfl | rfl | rfl | rfl | rfl | rfl
    · have e1 : dErr 1 b = 0 := by simp [dErr]
      have e2 : dVal .u32 .i32 32 1 a b = opV .u32 .i32 32 1 a b := by unfold dVal; rw [e1]; simp
      rw [e1, e2]
      exact do32_1 a b w ha0 ha1 hb0 hb1
    · have e1 : dErr 2 b = 0 := by simp [dErr]
      have e2 : dVal .u32 .i32 32 2 a b = opV .u32 .i32 32 2 a b := by unfold dVal; rw [e1]; simp
      rw [e1, e2]
      exact do32_2 a b w ha0 ha1 hb0 hb1
    · have e1 : dErr 3 b = 0 := by simp [dErr]
      have e2 : dVal .u32 .i32 32 3 a b = opV .u32 .i32 32 3 a b := by unfold dVal; rw [e1]; simp
      rw [e1, e2]
      exact do32_3 a b w ha0 ha1 hb0 hb1
    · by_cases hz : b = 0
      · subst hz
        have e1 : dErr 4 0 = 113 := by decide
        have e2 : dVal .u32 .i32 32 4 a 0 = 0 := by unfold dVal; rw [e1]; simp
        rw [e1, e2]
        exact do32_z4 a w
      · have e1 : dErr 4 b = 0 := by simp [dErr, hz]
        have e2 : dVal .u32 .i32 32 4 a b = opV .u32 .i32 32 4 a b := by unfold dVal; rw [e1]; simp
        rw [e1, e2]
        exact do32_4 a b w ha0 ha1 hb0 hb1 (by omega)
    · by_cases hz : b = 0
      · subst hz
        have e1 : dErr 5 0 = 113 := by decide
        have e2 : dVal .u32 .i32 32 5 a 0 = 0 := by unfold dVal; rw [e1]; simp
        rw [e1, e2]
        exact do32_z5 a w
      · have e1 : dErr 5 b = 0 := by simp [dErr, hz]
        have e2 : dVal .u32 .i32 32 5 a b = opV .u32 .i32 32 5 a b := by unfold dVal; rw [e1]; simp
        rw [e1, e2]
        exact do32_5 a b w ha0 ha1 hb0 hb1 (by omega)
    · have e1 : dErr 6 b = 0 := by simp [dErr]
      have e2 : dVal .u32 .i32 32 6 a b = opV .u32 .i32 32 6 a b := by unfold dVal; rw [e1]; simp
      rw [e1, e2]
      exact do32_6 a b w ha0 ha1 hb0 hb1
    · have e1 : dErr 7 b = 0 := by simp [dErr]
      have e2 : dVal .u32 .i32 32 7 a b = opV .u32 .i32 32 7 a b := by unfold dVal; rw [e1]; simp
      rw [e1, e2]
      exact do32_7 a b w ha0 ha1 hb0 hb1
    · have e1 : dErr 8 b = 0 := by simp [dErr]
      have e2 : dVal .u32 .i32 32 8 a b = opV .u32 .i32 32 8 a b := by unfold dVal; rw [e1]; simp
      rw [e1, e2]
      exact do32_8 a b w ha0 ha1 hb0 hb1
    · have e1 : dErr 9 b = 0 := by simp [dErr]
      have e2 : dVal .u32 .i32 32 9 a b = opV .u32 .i32 32 9 a b := by unfold dVal; rw [e1]; simp
      rw [e1, e2]
      exact do32_9 a b w ha0 ha1 hb0 hb1
    · have e1 : dErr 10 b = 0 := by simp [dErr]
      have e2 : dVal .u32 .i32 32 10 a b = opV .u32 .i32 32 10 a b := by unfold dVal; rw [e1]; simp
      rw [e1, e2]
      exact do32_10 a b w ha0 ha1 hb0 hb1
    · have e1 : dErr 11 b = 0 := by simp [dErr]
      have e2 : dVal .u32 .i32 32 11 a b = opV .u32 .i32 32 11 a b := by unfold dVal; rw [e1]; simp
      rw [e1, e2]
      exact do32_11 a b w ha0 ha1 hb0 hb1
    · have e1 : dErr 12 b = 0 := by simp [dErr]
      have e2 : dVal .u32 .i32 32 12 a b = opV .u32 .i32 32 12 a b := by unfold dVal; rw [e1]; simp
      rw [e1, e2]
      exact do32_12 a b w ha0 ha1 hb0 hb1
    · have e1 : dErr 13 b = 0 := by simp [dErr]
      have e2 : dVal .u32 .i32 32 13 a b = opV .u32 .i32 32 13 a b := by unfold dVal; rw [e1]; simp
      rw [e1, e2]
      exact do32_13 a b w ha0 ha1 hb0 hb1
  · have e1 : dErr op b = 2 := by simp [dErr, h]
    have e2 : dVal .u32 .i32 32 op a b = 0 := by unfold dVal; rw [e1]; simp
    rw [e1, e2]
    exact do32_no op a b w (beq_eq_false_iff_ne.2 (by omega)) (beq_eq_false_iff_ne.2 (by omega)) (beq_eq_false_iff_ne.2 (by omega)) (beq_eq_false_iff_ne.2 (by omega)) (beq_eq_false_iff_ne.2 (by omega)) (beq_eq_false_iff_ne.2 (by omega)) (beq_eq_false_iff_ne.2 (by omega)) (beq_eq_false_iff_ne.2 (by omega)) (beq_eq_false_iff_ne.2 (by omega)) (beq_eq_false_iff_ne.2 (by omega)) (beq_eq_false_iff_ne.2 (by omega)) (beq_eq_false_iff_ne.2 (by omega)) (beq_eq_false_iff_ne.2 (by omega))

theorem do64_any (op a b : Int) (w : World) (ha0 : 0 ≤ a) (ha1 : a ≤ 18446744073709551615) (hb0 : 0 ≤ b) (hb1 : b ≤ 18446744073709551615) :
    Calls Try.prog 66 #[.int .u8 op, .int .u64 64, .int .u64 a, .int .u64 b] w fun e w' => e = .returned (.tuple #[.int .u64 (dVal .u64 .i64 64 op a b), .int .i64 (dErr op b)]) ∧ Below w.heap.size w w' := by
  by_cases h : 1 ≤ op ∧ op ≤ 13
  · have hc : op = 1 ∨ op = 2 ∨ op = 3 ∨ op = 4 ∨ op = 5 ∨ op = 6 ∨ op = 7 ∨ op = 8 ∨ op = 9 ∨ op = 10 ∨ op = 11 ∨ op = 12 ∨ op = 13 := by omega
    rcases hc with rfl | rfl | rfl | rfl | rfl | rfl | rfl | rfl | rfl | rfl | rfl | rfl | rfl
    · have e1 : dErr 1 b = 0 := by simp [dErr]
      have e2 : dVal .u64 .i64 64 1 a b = opV .u64 .i64 64 1 a b := by unfold dVal; rw [e1]; simp
      rw [e1, e2]
      exact do64_1 a b w ha0 ha1 hb0 hb1
    · have e1 : dErr 2 b = 0 := by simp [dErr]
      have e2 : dVal .u64 .i64 64 2 a b = opV .u64 .i64 64 2 a b := by unfold dVal; rw [e1]; simp
      rw [e1, e2]
      exact do64_2 a b w ha0 ha1 hb0 hb1
    · have e1 : dErr 3 b = 0 := by simp [dErr]
      have e2 : dVal .u64 .i64 64 3 a b = opV .u64 .i64 64 3 a b := by unfold dVal; rw [e1]; simp
      rw [e1, e2]
      exact do64_3 a b w ha0 ha1 hb0 hb1
    · by_cases hz : b = 0
      · subst hz
        have e1 : dErr 4 0 = 113 := by decide
        have e2 : dVal .u64 .i64 64 4 a 0 = 0 := by unfold dVal; rw [e1]; simp
        rw [e1, e2]
        exact do64_z4 a w
      · have e1 : dErr 4 b = 0 := by simp [dErr, hz]
        have e2 : dVal .u64 .i64 64 4 a b = opV .u64 .i64 64 4 a b := by unfold dVal; rw [e1]; simp
        rw [e1, e2]
        exact do64_4 a b w ha0 ha1 hb0 hb1 (by omega)
    · by_cases hz : b = 0
      · subst hz
        have e1 : dErr 5 0 = 113 := by decide
        have e2 : dVal .u64 .i64 64 5 a 0 = 0 := by unfold dVal; rw [e1]; simp
        rw [e1, e2]
        exact do64_z5 a w
      · have e1 : dErr 5 b = 0 := by simp [dErr, hz]
        have e2 : dVal .u64 .i64 64 5 a b = opV .u64 .i64 64 5 a b := by unfold dVal; rw [e1]; simp
        rw [e1, e2]
        exact do64_5 a b w ha0 ha1 hb0 hb1 (by omega)
    · have e1 : dErr 6 b = 0 := by simp [dErr]
      have e2 : dVal .u64 .i64 64 6 a b = opV .u64 .i64 64 6 a b := by unfold dVal; rw [e1]; simp
      rw [e1, e2]
      exact do64_6 a b w ha0 ha1 hb0 hb1
    · have e1 : dErr 7 b = 0 := by simp [dErr]
      have e2 : dVal .u64 .i64 64 7 a b = opV .u64 .i64 64 7 a b := by unfold dVal; rw [e1]; simp
      rw [e1, e2]
      exact do64_7 a b w ha0 ha1 hb0 hb1
    · have e1 : dErr 8 b = 0 := by simp [dErr]
      have e2 : dVal .u64 .i64 64 8 a b = opV .u64 .i64 64 8 a b := by unfold dVal; rw [e1]; simp
      rw [e1, e2]
      exact do64_8 a b w ha0 ha1 hb0 hb1
    · have e1 : dErr 9 b = 0 := by simp [dErr]
      have e2 : dVal .u64 .i64 64 9 a b = opV .u64 .i64 64 9 a b := by unfold dVal; rw [e1]; simp
      rw [e1, e2]
      exact do64_9 a b w ha0 ha1 hb0 hb1
    · have e1 : dErr 10 b = 0 := by simp [dErr]
      have e2 : dVal .u64 .i64 64 10 a b = opV .u64 .i64 64 10 a b := by unfold dVal; rw [e1]; simp
      rw [e1, e2]
      exact do64_10 a b w ha0 ha1 hb0 hb1
    · have e1 : dErr 11 b = 0 := by simp [dErr]
      have e2 : dVal .u64 .i64 64 11 a b = opV .u64 .i64 64 11 a b := by unfold dVal; rw [e1]; simp
      rw [e1, e2]
      exact do64_11 a b w ha0 ha1 hb0 hb1
    · have e1 : dErr 12 b = 0 := by simp [dErr]
      have e2 : dVal .u64 .i64 64 12 a b = opV .u64 .i64 64 12 a b := by unfold dVal; rw [e1]; simp
      rw [e1, e2]
      exact do64_12 a b w ha0 ha1 hb0 hb1
    · have e1 : dErr 13 b = 0 := by simp [dErr]
      have e2 : dVal .u64 .i64 64 13 a b = opV .u64 .i64 64 13 a b := by unfold dVal; rw [e1]; simp
      rw [e1, e2]
      exact do64_13 a b w ha0 ha1 hb0 hb1
  · have e1 : dErr op b = 2 := by simp [dErr, h]
    have e2 : dVal .u64 .i64 64 op a b = 0 := by unfold dVal; rw [e1]; simp
    rw [e1, e2]
    exact do64_no op a b w (beq_eq_false_iff_ne.2 (by omega)) (beq_eq_false_iff_ne.2 (by omega)) (beq_eq_false_iff_ne.2 (by omega)) (beq_eq_false_iff_ne.2 (by omega)) (beq_eq_false_iff_ne.2 (by omega)) (beq_eq_false_iff_ne.2 (by omega)) (beq_eq_false_iff_ne.2 (by omega)) (beq_eq_false_iff_ne.2 (by omega)) (beq_eq_false_iff_ne.2 (by omega)) (beq_eq_false_iff_ne.2 (by omega)) (beq_eq_false_iff_ne.2 (by omega)) (beq_eq_false_iff_ne.2 (by omega)) (beq_eq_false_iff_ne.2 (by omega))


theorem wrap_u32_range (x : Int) : 0 ≤ IntKind.u32.wrap x ∧ IntKind.u32.wrap x ≤ 4294967295 := by rw [IntKind.wrap_u32]; omega
theorem wrap_u64_range (x : Int) : 0 ≤ IntKind.u64.wrap x ∧ IntKind.u64.wrap x ≤ 18446744073709551615 := by rw [IntKind.wrap_u64]; omega
theorem div_pow_range (a : Int) (n : Nat) (M : Int) (h0 : 0 ≤ a) (h1 : a ≤ M) : 0 ≤ a / 2 ^ n ∧ a / 2 ^ n ≤ M := by
  have hp : (0 : Int) < 2 ^ n := Int.pow_pos (by omega)
  exact ⟨Int.ediv_nonneg h0 (by omega), Int.le_trans (Int.ediv_le_self _ h0) h1⟩
theorem div_range (a b M : Int) (h0 : 0 ≤ a) (h1 : a ≤ M) (hb : 0 ≤ b) : 0 ≤ a / b ∧ a / b ≤ M :=
  ⟨Int.ediv_nonneg h0 hb, Int.le_trans (Int.ediv_le_self _ h0) h1⟩
theorem mod_range (a b M : Int) (h0 : 0 ≤ a) (h1 : a ≤ M) (hb : 0 ≤ b) : 0 ≤ a % b ∧ a % b ≤ M := by
  rcases Int.lt_or_eq_of_le hb with h | h
  · refine ⟨Int.emod_nonneg _ (by omega), ?_⟩
    have := Int.emod_nonneg a (show b ≠ 0 by omega)
    have h2 := Int.mul_ediv_add_emod a b
    have h3 := Int.mul_nonneg hb (Int.ediv_nonneg h0 hb)
    omega
  · subst h; simp; omega
theorem opV32_range (i : Nat) (a b : Int) (ha0 : 0 ≤ a) (ha1 : a ≤ 4294967295) (hb0 : 0 ≤ b) (hb1 : b ≤ 4294967295) : 0 ≤ opV .u32 .i32 32 i a b ∧ opV .u32 .i32 32 i a b ≤ 4294967295 := by
  unfold opV
  split
  all_goals first
    | exact wrap_u32_range _
    | exact div_range _ _ _ ha0 ha1 hb0
    | exact mod_range _ _ _ ha0 ha1 hb0
    | exact div_pow_range _ _ _ ha0 ha1
    | exact ⟨hb0, hb1⟩
    | (unfold bits; exact wrap_u32_range _)
    | omega
end Go.Proofs.Ytbfegghkipoppaa
namespace Go.Proofs.Ytbfegghkipoppaa
set_option maxRecDepth 100000
open Go.RowKit
set_option linter.unusedVariables false

/-- What a question tells of two numbers of kind k (signed: s). -/
def isV (k s : IntKind) (i : Nat) (a b : Int) : Bool :=
  match i with
  | 17 => a == b
  | 18 => a != b
  | 19 => decide (b < a)
  | 20 => decide (b ≤ a)
  | 21 => decide (a < b)
  | 22 => decide (a ≤ b)
  | 23 => decide (s.wrap b < s.wrap a)
  | 24 => decide (s.wrap b ≤ s.wrap a)
  | 25 => decide (s.wrap a < s.wrap b)
  | 26 => decide (s.wrap a ≤ s.wrap b)
  | 27 => bits BinOp.and k a b != 0
  | _ => false

theorem is32_17 (a b : Int) (w : World) (ha0 : 0 ≤ a) (ha1 : a ≤ 4294967295) (hb0 : 0 ≤ b) (hb1 : b ≤ 4294967295) :
    Calls Try.prog 72 #[.int .u8 17, .int .u32 a, .int .u32 b] w fun e w' => e = .returned (.tuple #[.bool (isV .u32 .i32 17 a b), .int .i64 0]) ∧ w = w' := by
  go_enter Try.func72, Try.ntmps72
  go_wp2
  go_ret2
  exact ⟨rfl, rfl⟩

theorem is32_18 (a b : Int) (w : World) (ha0 : 0 ≤ a) (ha1 : a ≤ 4294967295) (hb0 : 0 ≤ b) (hb1 : b ≤ 4294967295) :
    Calls Try.prog 72 #[.int .u8 18, .int .u32 a, .int .u32 b] w fun e w' => e = .returned (.tuple #[.bool (isV .u32 .i32 18 a b), .int .i64 0]) ∧ w = w' := by
  go_enter Try.func72, Try.ntmps72
  go_wp2
  go_ret2
  exact ⟨rfl, rfl⟩

theorem is32_19 (a b : Int) (w : World) (ha0 : 0 ≤ a) (ha1 : a ≤ 4294967295) (hb0 : 0 ≤ b) (hb1 : b ≤ 4294967295) :
    Calls Try.prog 72 #[.int .u8 19, .int .u32 a, .int .u32 b] w fun e w' => e = .returned (.tuple #[.bool (isV .u32 .i32 19 a b), .int .i64 0]) ∧ w = w' := by
  go_enter Try.func72, Try.ntmps72
  go_wp2
  go_ret2
  exact ⟨rfl, rfl⟩

theorem is32_20 (a b : Int) (w : World) (ha0 : 0 ≤ a) (ha1 : a ≤ 4294967295) (hb0 : 0 ≤ b) (hb1 : b ≤ 4294967295) :
    Calls Try.prog 72 #[.int .u8 20, .int .u32 a, .int .u32 b] w fun e w' => e = .returned (.tuple #[.bool (isV .u32 .i32 20 a b), .int .i64 0]) ∧ w = w' := by
  go_enter Try.func72, Try.ntmps72
  go_wp2
  go_ret2
  exact ⟨rfl, rfl⟩

theorem is32_21 (a b : Int) (w : World) (ha0 : 0 ≤ a) (ha1 : a ≤ 4294967295) (hb0 : 0 ≤ b) (hb1 : b ≤ 4294967295) :
    Calls Try.prog 72 #[.int .u8 21, .int .u32 a, .int .u32 b] w fun e w' => e = .returned (.tuple #[.bool (isV .u32 .i32 21 a b), .int .i64 0]) ∧ w = w' := by
  go_enter Try.func72, Try.ntmps72
  go_wp2
  go_ret2
  exact ⟨rfl, rfl⟩

theorem is32_22 (a b : Int) (w : World) (ha0 : 0 ≤ a) (ha1 : a ≤ 4294967295) (hb0 : 0 ≤ b) (hb1 : b ≤ 4294967295) :
    Calls Try.prog 72 #[.int .u8 22, .int .u32 a, .int .u32 b] w fun e w' => e = .returned (.tuple #[.bool (isV .u32 .i32 22 a b), .int .i64 0]) ∧ w = w' := by
  go_enter Try.func72, Try.ntmps72
  go_wp2
  go_ret2
  exact ⟨rfl, rfl⟩

theorem is32_23 (a b : Int) (w : World) (ha0 : 0 ≤ a) (ha1 : a ≤ 4294967295) (hb0 : 0 ≤ b) (hb1 : b ≤ 4294967295) :
    Calls Try.prog 72 #[.int .u8 23, .int .u32 a, .int .u32 b] w fun e w' => e = .returned (.tuple #[.bool (isV .u32 .i32 23 a b), .int .i64 0]) ∧ w = w' := by
  have e1 : wrap32 a = IntKind.i32.wrap a := by unfold wrap32; rw [IntKind.wrap_i32]
  have e2 : wrap32 b = IntKind.i32.wrap b := by unfold wrap32; rw [IntKind.wrap_i32]
  have E1 := Lib.hid e1
  have E2 := Lib.hid e2
  clear e1 e2
  go_enter Try.func72, Try.ntmps72
  go_wp2
  go_ret2
  refine ⟨?_, rfl⟩
  show _ = Ending.returned (.tuple #[.bool (decide (IntKind.i32.wrap b < IntKind.i32.wrap a)), .int .i64 0])
  rw [← E1.out, ← E2.out]
  rfl

theorem is32_24 (a b : Int) (w : World) (ha0 : 0 ≤ a) (ha1 : a ≤ 4294967295) (hb0 : 0 ≤ b) (hb1 : b ≤ 4294967295) :
    Calls Try.prog 72 #[.int .u8 24, .int .u32 a, .int .u32 b] w fun e w' => e = .returned (.tuple #[.bool (isV .u32 .i32 24 a b), .int .i64 0]) ∧ w = w' := by
  have e1 : wrap32 a = IntKind.i32.wrap a := by unfold wrap32; rw [IntKind.wrap_i32]
  have e2 : wrap32 b = IntKind.i32.wrap b := by unfold wrap32; rw [IntKind.wrap_i32]
  have E1 := Lib.hid e1
  have E2 := Lib.hid e2
  clear e1 e2
  go_enter Try.func72, Try.ntmps72
  go_wp2
  go_ret2
  refine ⟨?_, rfl⟩
  show _ = Ending.returned (.tuple #[.bool (decide (IntKind.i32.wrap b ≤ IntKind.i32.wrap a)), .int .i64 0])
  rw [← E1.out, ← E2.out]
  rfl

theorem is32_25 (a b : Int) (w : World) (ha0 : 0 ≤ a) (ha1 : a ≤ 4294967295) (hb0 : 0 ≤ b) (hb1 : b ≤ 4294967295) :
    Calls Try.prog 72 #[.int .u8 25, .int .u32 a, .int .u32 b] w fun e w' => e = .returned (.tuple #[.bool (isV .u32 .i32 25 a b), .int .i64 0]) ∧ w = w' := by
  have e1 : wrap32 a = IntKind.i32.wrap a := by unfold wrap32; rw [IntKind.wrap_i32]
  have e2 : wrap32 b = IntKind.i32.wrap b := by unfold wrap32; rw [IntKind.wrap_i32]
  have E1 := Lib.hid e1
  have E2 := Lib.hid e2
  clear e1 e2
  go_enter Try.func72, Try.ntmps72
  go_wp2
  go_ret2
  refine ⟨?_, rfl⟩
  show _ = Ending.returned (.tuple #[.bool (decide (IntKind.i32.wrap a < IntKind.i32.wrap b)), .int .i64 0])
  rw [← E1.out, ← E2.out]
  rfl

theorem is32_26 (a b : Int) (w : World) (ha0 : 0 ≤ a) (ha1 : a ≤ 4294967295) (hb0 : 0 ≤ b) (hb1 : b ≤ 4294967295) :
    Calls Try.prog 72 #[.int .u8 26, .int .u32 a, .int .u32 b] w fun e w' => e = .returned (.tuple #[.bool (isV .u32 .i32 26 a b), .int .i64 0]) ∧ w = w' := by
  have e1 : wrap32 a = IntKind.i32.wrap a := by unfold wrap32; rw [IntKind.wrap_i32]
  have e2 : wrap32 b = IntKind.i32.wrap b := by unfold wrap32; rw [IntKind.wrap_i32]
  have E1 := Lib.hid e1
  have E2 := Lib.hid e2
  clear e1 e2
  go_enter Try.func72, Try.ntmps72
  go_wp2
  go_ret2
  refine ⟨?_, rfl⟩
  show _ = Ending.returned (.tuple #[.bool (decide (IntKind.i32.wrap a ≤ IntKind.i32.wrap b)), .int .i64 0])
  rw [← E1.out, ← E2.out]
  rfl

theorem is32_27 (a b : Int) (w : World) (ha0 : 0 ≤ a) (ha1 : a ≤ 4294967295) (hb0 : 0 ≤ b) (hb1 : b ≤ 4294967295) :
    Calls Try.prog 72 #[.int .u8 27, .int .u32 a, .int .u32 b] w fun e w' => e = .returned (.tuple #[.bool (isV .u32 .i32 27 a b), .int .i64 0]) ∧ w = w' := by
  go_enter Try.func72, Try.ntmps72
  go_wp2
  go_ret2
  exact ⟨rfl, rfl⟩

theorem is32_no (op a b : Int) (w : World) (h17 : (op == 17) = false) (h18 : (op == 18) = false) (h19 : (op == 19) = false) (h20 : (op == 20) = false) (h21 : (op == 21) = false) (h22 : (op == 22) = false) (h23 : (op == 23) = false) (h24 : (op == 24) = false) (h25 : (op == 25) = false) (h26 : (op == 26) = false) (h27 : (op == 27) = false) :
    Calls Try.prog 72 #[.int .u8 op, .int .u32 a, .int .u32 b] w fun e w' => e = .returned (.tuple #[.bool false, .int .i64 2]) ∧ w = w' := by
  go_enter Try.func72, Try.ntmps72
  go_wp2
  go_ret2
  exact ⟨rfl, rfl⟩

theorem is64_17 (a b : Int) (w : World) (ha0 : 0 ≤ a) (ha1 : a ≤ 18446744073709551615) (hb0 : 0 ≤ b) (hb1 : b ≤ 18446744073709551615) :
    Calls Try.prog 73 #[.int .u8 17, .int .u64 a, .int .u64 b] w fun e w' => e = .returned (.tuple #[.bool (isV .u64 .i64 17 a b), .int .i64 0]) ∧ w = w' := by
  go_enter Try.func73, Try.ntmps73
  go_wp2
  go_ret2
  exact ⟨rfl, rfl⟩

theorem is64_18 (a b : Int) (w : World) (ha0 : 0 ≤ a) (ha1 : a ≤ 18446744073709551615) (hb0 : 0 ≤ b) (hb1 : b ≤ 18446744073709551615) :
    Calls Try.prog 73 #[.int .u8 18, .int .u64 a, .int .u64 b] w fun e w' => e = .returned (.tuple #[.bool (isV .u64 .i64 18 a b), .int .i64 0]) ∧ w = w' := by
  go_enter Try.func73, Try.ntmps73
  go_wp2
  go_ret2
  exact ⟨rfl, rfl⟩

theorem is64_19 (a b : Int) (w : World) (ha0 : 0 ≤ a) (ha1 : a ≤ 18446744073709551615) (hb0 : 0 ≤ b) (hb1 : b ≤ 18446744073709551615) :
    Calls Try.prog 73 #[.int .u8 19, .int .u64 a, .int .u64 b] w fun e w' => e = .returned (.tuple #[.bool (isV .u64 .i64 19 a b), .int .i64 0]) ∧ w = w' := by
  go_enter Try.func73, Try.ntmps73
  go_wp2
  go_ret2
  exact ⟨rfl, rfl⟩

theorem is64_20 (a b : Int) (w : World) (ha0 : 0 ≤ a) (ha1 : a ≤ 18446744073709551615) (hb0 : 0 ≤ b) (hb1 : b ≤ 18446744073709551615) :
    Calls Try.prog 73 #[.int .u8 20, .int .u64 a, .int .u64 b] w fun e w' => e = .returned (.tuple #[.bool (isV .u64 .i64 20 a b), .int .i64 0]) ∧ w = w' := by
  go_enter Try.func73, Try.ntmps73
  go_wp2
  go_ret2
  exact ⟨rfl, rfl⟩

theorem is64_21 (a b : Int) (w : World) (ha0 : 0 ≤ a) (ha1 : a ≤ 18446744073709551615) (hb0 : 0 ≤ b) (hb1 : b ≤ 18446744073709551615) :
    Calls Try.prog 73 #[.int .u8 21, .int .u64 a, .int .u64 b] w fun e w' => e = .returned (.tuple #[.bool (isV .u64 .i64 21 a b), .int .i64 0]) ∧ w = w' := by
  go_enter Try.func73, Try.ntmps73
  go_wp2
  go_ret2
  exact ⟨rfl, rfl⟩

theorem is64_22 (a b : Int) (w : World) (ha0 : 0 ≤ a) (ha1 : a ≤ 18446744073709551615) (hb0 : 0 ≤ b) (hb1 : b ≤ 18446744073709551615) :
    Calls Try.prog 73 #[.int .u8 22, .int .u64 a, .int .u64 b] w fun e w' => e = .returned (.tuple #[.bool (isV .u64 .i64 22 a b), .int .i64 0]) ∧ w = w' := by
  go_enter Try.func73, Try.ntmps73
  go_wp2
  go_ret2
  exact ⟨rfl, rfl⟩

theorem is64_23 (a b : Int) (w : World) (ha0 : 0 ≤ a) (ha1 : a ≤ 18446744073709551615) (hb0 : 0 ≤ b) (hb1 : b ≤ 18446744073709551615) :
    Calls Try.prog 73 #[.int .u8 23, .int .u64 a, .int .u64 b] w fun e w' => e = .returned (.tuple #[.bool (isV .u64 .i64 23 a b), .int .i64 0]) ∧ w = w' := by
  have e1 : wrap64 a = IntKind.i64.wrap a := by unfold wrap64; rw [IntKind.wrap_i64]
  have e2 : wrap64 b = IntKind.i64.wrap b := by unfold wrap64; rw [IntKind.wrap_i64]
  have E1 := Lib.hid e1
  have E2 := Lib.hid e2
  clear e1 e2
  go_enter Try.func73, Try.ntmps73
  go_wp2
  go_ret2
  refine ⟨?_, rfl⟩
  show _ = Ending.returned (.tuple #[.bool (decide (IntKind.i64.wrap b < IntKind.i64.wrap a)), .int .i64 0])
  rw [← E1.out, ← E2.out]
  rfl

theorem is64_24 (a b : Int) (w : World) (ha0 : 0 ≤ a) (ha1 : a ≤ 18446744073709551615) (hb0 : 0 ≤ b) (hb1 : b ≤ 18446744073709551615) :
    Calls Try.prog 73 #[.int .u8 24, .int .u64 a, .int .u64 b] w fun e w' => e = .returned (.tuple #[.bool (isV .u64 .i64 24 a b), .int .i64 0]) ∧ w = w' := by
  have e1 : wrap64 a = IntKind.i64.wrap a := by unfold wrap64; rw [IntKind.wrap_i64]
  have e2 : wrap64 b = IntKind.i64.wrap b := by unfold wrap64; rw [IntKind.wrap_i64]
  have E1 := Lib.hid e1
  have E2 := Lib.hid e2
  clear e1 e2
  go_enter Try.func73, Try.ntmps73
  go_wp2
  go_ret2
  refine ⟨?_, rfl⟩
  show _ = Ending.returned (.tuple #[.bool (decide (IntKind.i64.wrap b ≤ IntKind.i64.wrap a)), .int .i64 0])
  rw [← E1.out, ← E2.out]
  rfl

theorem is64_25 (a b : Int) (w : World) (ha0 : 0 ≤ a) (ha1 : a ≤ 18446744073709551615) (hb0 : 0 ≤ b) (hb1 : b ≤ 18446744073709551615) :
    Calls Try.prog 73 #[.int .u8 25, .int .u64 a, .int .u64 b] w fun e w' => e = .returned (.tuple #[.bool (isV .u64 .i64 25 a b), .int .i64 0]) ∧ w = w' := by
  have e1 : wrap64 a = IntKind.i64.wrap a := by unfold wrap64; rw [IntKind.wrap_i64]
  have e2 : wrap64 b = IntKind.i64.wrap b := by unfold wrap64; rw [IntKind.wrap_i64]
  have E1 := Lib.hid e1
  have E2 := Lib.hid e2
  clear e1 e2
  go_enter Try.func73, Try.ntmps73
  go_wp2
  go_ret2
  refine ⟨?_, rfl⟩
  show _ = Ending.returned (.tuple #[.bool (decide (IntKind.i64.wrap a < IntKind.i64.wrap b)), .int .i64 0])
  rw [← E1.out, ← E2.out]
  rfl

theorem is64_26 (a b : Int) (w : World) (ha0 : 0 ≤ a) (ha1 : a ≤ 18446744073709551615) (hb0 : 0 ≤ b) (hb1 : b ≤ 18446744073709551615) :
    Calls Try.prog 73 #[.int .u8 26, .int .u64 a, .int .u64 b] w fun e w' => e = .returned (.tuple #[.bool (isV .u64 .i64 26 a b), .int .i64 0]) ∧ w = w' := by
  have e1 : wrap64 a = IntKind.i64.wrap a := by unfold wrap64; rw [IntKind.wrap_i64]
  have e2 : wrap64 b = IntKind.i64.wrap b := by unfold wrap64; rw [IntKind.wrap_i64]
  have E1 := Lib.hid e1
  have E2 := Lib.hid e2
  clear e1 e2
  go_enter Try.func73, Try.ntmps73
  go_wp2
  go_ret2
  refine ⟨?_, rfl⟩
  show _ = Ending.returned (.tuple #[.bool (decide (IntKind.i64.wrap a ≤ IntKind.i64.wrap b)), .int .i64 0])
  rw [← E1.out, ← E2.out]
  rfl

theorem is64_27 (a b : Int) (w : World) (ha0 : 0 ≤ a) (ha1 : a ≤ 18446744073709551615) (hb0 : 0 ≤ b) (hb1 : b ≤ 18446744073709551615) :
    Calls Try.prog 73 #[.int .u8 27, .int .u64 a, .int .u64 b] w fun e w' => e = .returned (.tuple #[.bool (isV .u64 .i64 27 a b), .int .i64 0]) ∧ w = w' := by
  go_enter Try.func73, Try.ntmps73
  go_wp2
  go_ret2
  exact ⟨rfl, rfl⟩

theorem is64_no (op a b : Int) (w : World) (h17 : (op == 17) = false) (h18 : (op == 18) = false) (h19 : (op == 19) = false) (h20 : (op == 20) = false) (h21 : (op == 21) = false) (h22 : (op == 22) = false) (h23 : (op == 23) = false) (h24 : (op == 24) = false) (h25 : (op == 25) = false) (h26 : (op == 26) = false) (h27 : (op == 27) = false) :
    Calls Try.prog 73 #[.int .u8 op, .int .u64 a, .int .u64 b] w fun e w' => e = .returned (.tuple #[.bool false, .int .i64 2]) ∧ w = w' := by
  go_enter Try.func73, Try.ntmps73
  go_wp2
  go_ret2
  exact ⟨rfl, rfl⟩

end Go.Proofs.Ytbfegghkipoppaa
namespace Go.Proofs.Ytbfegghkipoppaa
set_option maxRecDepth 100000
open Go.RowKit
set_option linter.unusedVariables false

/-- The error of a question. -/
def isE (op : Int) : Int := if 17 ≤ op ∧ op ≤ 27 then 0 else 2

theorem is32_any (op a b : Int) (w : World) (h0 : 0 ≤ op) (ha0 : 0 ≤ a) (ha1 : a ≤ 4294967295) (hb0 : 0 ≤ b) (hb1 : b ≤ 4294967295) :
    Calls Try.prog 72 #[.int .u8 op, .int .u32 a, .int .u32 b] w fun e w' => e = .returned (.tuple #[.bool (isV .u32 .i32 op.toNat a b), .int .i64 (isE op)]) ∧ w = w' := by
  by_cases h : 17 ≤ op ∧ op ≤ 27
  · have hc : op = 17 ∨ op = 18 ∨ op = 19 ∨ op = 20 ∨ op = 21 ∨ op = 22 ∨ op = 23 ∨ op = 24 ∨ op = 25 ∨ op = 26 ∨ op = 27 := by omega
    rcases hc with rfl | rfl | rfl | rfl | rfl | rfl | rfl | rfl | rfl | rfl | rfl
    · rw [show isE 17 = 0 by decide]
      exact is32_17 a b w ha0 ha1 hb0 hb1
    · rw [show isE 18 = 0 by decide]
      exact is32_18 a b w ha0 ha1 hb0 hb1
    · rw [show isE 19 = 0 by decide]
      exact is32_19 a b w ha0 ha1 hb0 hb1
    · rw [show isE 20 = 0 by decide]
      exact is32_20 a b w ha0 ha1 hb0 hb1
    · rw [show isE 21 = 0 by decide]
      exact is32_21 a b w ha0 ha1 hb0 hb1
    · rw [show isE 22 = 0 by decide]
      exact is32_22 a b w ha0 ha1 hb0 hb1
    · rw [show isE 23 = 0 by decide]
      exact is32_23 a b w ha0 ha1 hb0 hb1
    · rw [show isE 24 = 0 by decide]
      exact is32_24 a b w ha0 ha1 hb0 hb1
    · rw [show isE 25 = 0 by decide]
      exact is32_25 a b w ha0 ha1 hb0 hb1
    · rw [show isE 26 = 0 by decide]
      exact is32_26 a b w ha0 ha1 hb0 hb1
    · rw [show isE 27 = 0 by decide]
      exact is32_27 a b w ha0 ha1 hb0 hb1
  · have e1 : isE op = 2 := by simp [isE, h]
    have e2 : isV .u32 .i32 op.toNat a b = false := by
      obtain ⟨n, rfl⟩ := Int.eq_ofNat_of_zero_le h0
      unfold isV
      split <;> first | rfl | (exfalso; simp_all)
    rw [e1, e2]
    exact is32_no op a b w (beq_eq_false_iff_ne.2 (by omega)) (beq_eq_false_iff_ne.2 (by omega)) (beq_eq_false_iff_ne.2 (by omega)) (beq_eq_false_iff_ne.2 (by omega)) (beq_eq_false_iff_ne.2 (by omega)) (beq_eq_false_iff_ne.2 (by omega)) (beq_eq_false_iff_ne.2 (by omega)) (beq_eq_false_iff_ne.2 (by omega)) (beq_eq_false_iff_ne.2 (by omega)) (beq_eq_false_iff_ne.2 (by omega)) (beq_eq_false_iff_ne.2 (by omega))

theorem is64_any (op a b : Int) (w : World) (h0 : 0 ≤ op) (ha0 : 0 ≤ a) (ha1 : a ≤ 18446744073709551615) (hb0 : 0 ≤ b) (hb1 : b ≤ 18446744073709551615) :
    Calls Try.prog 73 #[.int .u8 op, .int .u64 a, .int .u64 b] w fun e w' => e = .returned (.tuple #[.bool (isV .u64 .i64 op.toNat a b), .int .i64 (isE op)]) ∧ w = w' := by
  by_cases h : 17 ≤ op ∧ op ≤ 27
  · have hc : op = 17 ∨ op = 18 ∨ op = 19 ∨ op = 20 ∨ op = 21 ∨ op = 22 ∨ op = 23 ∨ op = 24 ∨ op = 25 ∨ op = 26 ∨ op = 27 := by omega
    rcases hc with rfl | rfl | rfl | rfl | rfl | rfl | rfl | rfl | rfl | rfl | rfl
    · rw [show isE 17 = 0 by decide]
      exact is64_17 a b w ha0 ha1 hb0 hb1
    · rw [show isE 18 = 0 by decide]
      exact is64_18 a b w ha0 ha1 hb0 hb1
    · rw [show isE 19 = 0 by decide]
      exact is64_19 a b w ha0 ha1 hb0 hb1
    · rw [show isE 20 = 0 by decide]
      exact is64_20 a b w ha0 ha1 hb0 hb1
    · rw [show isE 21 = 0 by decide]
      exact is64_21 a b w ha0 ha1 hb0 hb1
    · rw [show isE 22 = 0 by decide]
      exact is64_22 a b w ha0 ha1 hb0 hb1
    · rw [show isE 23 = 0 by decide]
      exact is64_23 a b w ha0 ha1 hb0 hb1
    · rw [show isE 24 = 0 by decide]
      exact is64_24 a b w ha0 ha1 hb0 hb1
    · rw [show isE 25 = 0 by decide]
      exact is64_25 a b w ha0 ha1 hb0 hb1
    · rw [show isE 26 = 0 by decide]
      exact is64_26 a b w ha0 ha1 hb0 hb1
    · rw [show isE 27 = 0 by decide]
      exact is64_27 a b w ha0 ha1 hb0 hb1
  · have e1 : isE op = 2 := by simp [isE, h]
    have e2 : isV .u64 .i64 op.toNat a b = false := by
      obtain ⟨n, rfl⟩ := Int.eq_ofNat_of_zero_le h0
      unfold isV
      split <;> first | rfl | (exfalso; simp_all)
    rw [e1, e2]
    exact is64_no op a b w (beq_eq_false_iff_ne.2 (by omega)) (beq_eq_false_iff_ne.2 (by omega)) (beq_eq_false_iff_ne.2 (by omega)) (beq_eq_false_iff_ne.2 (by omega)) (beq_eq_false_iff_ne.2 (by omega)) (beq_eq_false_iff_ne.2 (by omega)) (beq_eq_false_iff_ne.2 (by omega)) (beq_eq_false_iff_ne.2 (by omega)) (beq_eq_false_iff_ne.2 (by omega)) (beq_eq_false_iff_ne.2 (by omega)) (beq_eq_false_iff_ne.2 (by omega))


/-- What Do tells: the number, the error; what Is tells. -/
def DoV (nar : Bool) (op a b : Int) : Int := if nar then dVal .u32 .i32 32 op (a % 4294967296) (b % 4294967296) else dVal .u64 .i64 64 op a b
def DoE (nar : Bool) (op b : Int) : Int := if nar then dErr op (b % 4294967296) else dErr op b
def IsV (nar : Bool) (op a b : Int) : Bool := if nar then isV .u32 .i32 op.toNat (a % 4294967296) (b % 4294967296) else isV .u64 .i64 op.toNat a b

theorem dVal32_range (op a b : Int) (ha0 : 0 ≤ a) (ha1 : a ≤ 4294967295) (hb0 : 0 ≤ b) (hb1 : b ≤ 4294967295) : 0 ≤ dVal .u32 .i32 32 op a b ∧ dVal .u32 .i32 32 op a b ≤ 4294967295 := by
  unfold dVal
  split
  · exact opV32_range _ _ _ ha0 ha1 hb0 hb1
  · omega

theorem Do_any (nar : Bool) (op a b : Int) (w : World) (ha0 : 0 ≤ a) (ha1 : a ≤ 18446744073709551615) (hb0 : 0 ≤ b) (hb1 : b ≤ 18446744073709551615) :
    Calls Try.prog 48 #[.int .u8 op, .bool nar, .int .u64 a, .int .u64 b] w fun e w' => e = .returned (.tuple #[.int .u64 (DoV nar op a b), .int .i64 (DoE nar op b)]) ∧ Below w.heap.size w w' := by
  cases nar with
  | true =>
    have hr := dVal32_range op (a % 4294967296) (b % 4294967296) (by omega) (by omega) (by omega) (by omega)
    obtain ⟨hr1, hr2⟩ := hr
    go_enter Try.func48, Try.ntmps48
    go_wp2_with fail
    refine (do32_any op (a % 4294967296) (b % 4294967296) _ (by omega) (by omega) (by omega) (by omega)).mono ?_
    rintro e w1 ⟨rfl, hb⟩
    go_wp2_with fail
    go_ret2
    exact ⟨rfl, hb⟩
  | false =>
    go_enter Try.func48, Try.ntmps48
    go_wp2_with fail
    refine (do64_any op a b _ ha0 ha1 hb0 hb1).mono ?_
    rintro e w1 ⟨rfl, hb⟩
    go_wp2_with fail
    go_ret2
    exact ⟨rfl, hb⟩

theorem Is_any (nar : Bool) (op a b : Int) (w : World) (h0 : 0 ≤ op) (ha0 : 0 ≤ a) (ha1 : a ≤ 18446744073709551615) (hb0 : 0 ≤ b) (hb1 : b ≤ 18446744073709551615) :
    Calls Try.prog 54 #[.int .u8 op, .bool nar, .int .u64 a, .int .u64 b] w fun e w' => e = .returned (.tuple #[.bool (IsV nar op a b), .int .i64 (isE op)]) ∧ w = w' := by
  cases nar with
  | true =>
    go_enter Try.func54, Try.ntmps54
    go_wp2_with fail
    refine (is32_any op (a % 4294967296) (b % 4294967296) _ h0 (by omega) (by omega) (by omega) (by omega)).mono ?_
    rintro e w1 ⟨rfl, rfl⟩
    go_wp2_with fail
    go_ret2
    exact ⟨rfl, rfl⟩
  | false =>
    go_enter Try.func54, Try.ntmps54
    go_wp2_with fail
    refine (is64_any op a b _ h0 ha0 ha1 hb0 hb1).mono ?_
    rintro e w1 ⟨rfl, rfl⟩
    go_wp2_with fail
    go_ret2
    exact ⟨rfl, rfl⟩


end Go.Proofs.Ytbfegghkipoppaa
namespace Go.Proofs.Ytbfegghkipoppaa
set_option maxRecDepth 100000
open Go.RowKit
set_option linter.unusedVariables false

theorem bit_eq (n k : Nat) (hn : n < 18446744073709551616) : (bits BinOp.and .u64 ((n : Int) / 2 ^ k) 1 == 1) = n.testBit k := by
  have e : (n : Int) / 2 ^ k = ((n / 2 ^ k : Nat) : Int) := by simp
  have hlt : n / 2 ^ k < 18446744073709551616 := Nat.lt_of_le_of_lt (Nat.div_le_self _ _) hn
  rw [e, show (1 : Int) = ((1 : Nat) : Int) by rfl, u64_and_nat _ _ hlt (by omega), Nat.and_one_is_mod, Nat.testBit_eq_decide_div_mod_eq]
  rw [Bool.eq_iff_iff]
  simp
  omega
theorem bit_any (n k : Nat) (w : World) (hn : n < 18446744073709551616) (hk : k < 64) :
    Calls Try.prog 59 #[.int .u64 n, .int .i64 k] w fun e w' => e = .returned (.bool (n.testBit k)) ∧ w = w' := by
  have HB := Lib.hid (bit_eq n k hn)
  go_enter Try.func59, Try.ntmps59
  go_wp2
  go_ret
  refine ⟨?_, rfl⟩
  rw [← HB.out]
  rfl

theorem or_pow (x k : Nat) (hx : x < 2 ^ k) (hk : k < 64) : bits BinOp.or .u64 (x : Int) (IntKind.u64.wrap (2 ^ k)) = ((x ||| 2 ^ k : Nat) : Int) := by
  have h1 : 2 ^ k < 18446744073709551616 := Nat.pow_lt_pow_right (n := 64) (by omega) hk
  have e : IntKind.u64.wrap (2 ^ k) = ((2 ^ k : Nat) : Int) := by
    rw [IntKind.wrap_u64, show ((2 : Int) ^ k) = ((2 ^ k : Nat) : Int) by simp]
    omega
  rw [e, u64_or_nat _ _ (by omega) h1]

/-- What each does with two bits. -/
def eachBit (op : Int) (x y : Bool) : Bool := if op = 7 then x || y else if op = 8 then x != y else x && y

set_option maxHeartbeats 400000 in
theorem each_any (op : Int) (a b : Nat) (w : World) (hop : op = 6 ∨ op = 7 ∨ op = 8) (ha : a < 18446744073709551616) (hb : b < 18446744073709551616) :
    Calls Try.prog 57 #[.int .u8 op, .int .u64 a, .int .u64 b] w fun e w' => e = .returned (.int .u64 ((gather (fun j => eachBit op (a.testBit j) (b.testBit j)) 64 : Nat) : Int)) ∧ w = w' := by
  obtain ⟨G, hG⟩ : ∃ G : Nat → Nat, G = fun n => gather (fun j => eachBit op (a.testBit j) (b.testBit j)) n := ⟨_, rfl⟩
  have HG : Hid (∀ n, G (n + 1) = if eachBit op (a.testBit n) (b.testBit n) then G n ||| 2 ^ n else G n) := Lib.hid (fun n => by rw [hG]; rfl)
  have HL : Hid (∀ n, G n < 2 ^ n) := Lib.hid (fun n => by rw [hG]; exact gather_lt _ n)
  have HE : Hid (gather (fun j => eachBit op (a.testBit j) (b.testBit j)) 64 = G 64) := Lib.hid (by rw [hG])
  have H0 : G 0 = 0 := by rw [hG]; rfl
  rw [HE.out]
  clear hG HE
  rcases hop with rfl | rfl | rfl
  all_goals
    have HZ := Lib.hid H0
    clear H0
    go_enter Try.func57, Try.ntmps57
    go_wp2_with fail
    go_loop [7, 8] (fun n i => ∃ k : Nat, k ≤ 64 ∧ i = .int .i64 k ∧ n = .int .u64 (G k : Int)) (fun _ i => 64 - (intOf i).toNat)
    case atStart => exact ⟨0, by omega, rfl, by rw [HZ.out]; rfl⟩
    case round =>
      obtain ⟨k, hk, rfl, rfl⟩ := hrel
      by_cases hlt : k < 64
      · have hs := HG.out k
        have hl := HL.out k
        have HO := Lib.hid (or_pow (G k) k hl hlt)
        have HS := Lib.hid hs
        clear hs hl
        go_wp2_with fail
        refine (bit_any a k _ ha hlt).mono ?_
        rintro e w1 ⟨rfl, rfl⟩
        go_wp2_with fail
        refine (bit_any b k _ hb hlt).mono ?_
        rintro e w1 ⟨rfl, rfl⟩
        cases hx : a.testBit k <;> cases hy : b.testBit k
        all_goals
          have HS2 := HS.out
          rw [hx, hy] at HS2
          simp only [eachBit] at HS2
          have HS3 := Lib.hid HS2
          clear HS2 hx hy
          go_wp2_with fail
          go_round
          case rel => exact ⟨k + 1, by omega, by go_num, by rw [HS3.out]; first | rfl | (rw [HO.out]; rfl) | (simp; done) | (rw [HO.out]; simp; done)⟩
          case measure => simp [intOf]; omega
      · obtain rfl : k = 64 := by omega
        go_wp2_with fail
        go_ret
        exact ⟨rfl, rfl⟩
end Go.Proofs.Ytbfegghkipoppaa
namespace Go.Proofs.Ytbfegghkipoppaa
set_option maxRecDepth 100000
open Go.RowKit
set_option linter.unusedVariables false

set_option maxHeartbeats 400000 in
theorem moved_any (a : Nat) (d : Int) (size : Nat) (inn : Bool) (w : World) (hs : size ≤ 64) (hd0 : -64 < d) (hd1 : d < 64) (ha : a < 18446744073709551616) :
    Calls Try.prog 58 #[.int .u64 a, .int .i64 d, .int .i64 size, .bool inn] w fun e w' => e = .returned (.int .u64 ((movedN a d size inn size : Nat) : Int)) ∧ w = w' := by
  obtain ⟨G, hG⟩ : ∃ G : Nat → Nat, G = fun n => movedN a d size inn n := ⟨_, rfl⟩
  have HG : Hid (∀ n, G (n + 1) = if movedBit a d size inn n then G n ||| 2 ^ n else G n) := Lib.hid (fun n => by rw [hG]; rfl)
  have HL : Hid (∀ n, G n < 2 ^ n) := Lib.hid (fun n => by rw [hG]; exact gather_lt _ n)
  have HE : Hid (movedN a d size inn size = G size) := Lib.hid (by rw [hG])
  have HZ : Hid (G 0 = 0) := Lib.hid (by rw [hG]; rfl)
  rw [HE.out]
  clear hG HE
  go_enter Try.func58, Try.ntmps58
  go_wp2_with fail
  go_loop [9, 10] (fun n i => ∃ k : Nat, k ≤ size ∧ i = .int .i64 k ∧ n = .int .u64 (G k : Int)) (fun _ i => size - (intOf i).toNat)
  case atStart => exact ⟨0, by omega, rfl, by rw [HZ.out]; rfl⟩
  case round =>
    obtain ⟨k, hk, rfl, rfl⟩ := hrel
    by_cases hlt : k < size
    · have HO := Lib.hid (or_pow (G k) k (HL.out k) (by omega))
      by_cases h0 : 0 ≤ (k : Int) - d
      · by_cases h1 : (k : Int) - d < size
        · obtain ⟨m, hm⟩ := Int.eq_ofNat_of_zero_le h0
          have hms : m < size := by omega
          have hb : movedBit a d size inn k = a.testBit m := by unfold movedBit; rw [if_pos ⟨h0, h1⟩, hm]; rfl
          have HS := Lib.hid (HG.out k)
          have HB := Lib.hid hb
          have HM := Lib.hid hm
          clear hb hm
          go_wp2_with fail
          rw [HM.out]
          refine (bit_any a m _ ha (by omega)).mono ?_
          rintro e w1 ⟨rfl, rfl⟩
          cases hx : a.testBit m
          all_goals
            have HS2 := HS.out
            rw [HB.out, hx] at HS2
            have HS3 := Lib.hid HS2
            clear HS2 hx
            go_wp2_with fail
            go_round
            case rel => exact ⟨k + 1, by omega, by go_num, by rw [HS3.out]; first | rfl | (rw [HO.out]; rfl) | (simp; done) | (rw [HO.out]; simp; done)⟩
            case measure => simp [intOf]; omega
        · have hb : movedBit a d size inn k = inn := by unfold movedBit; rw [if_neg (by omega)]
          have HS := Lib.hid (HG.out k)
          have HB := Lib.hid hb
          clear hb
          cases inn
          all_goals
            have HS2 := HS.out
            rw [HB.out] at HS2
            have HS3 := Lib.hid HS2
            clear HS2
            go_wp2_with fail
            go_round
            case rel => exact ⟨k + 1, by omega, by go_num, by rw [HS3.out]; first | rfl | (rw [HO.out]; rfl) | (simp; done) | (rw [HO.out]; simp; done)⟩
            case measure => simp [intOf]; omega
      · have hb : movedBit a d size inn k = inn := by unfold movedBit; rw [if_neg (by omega)]
        have HS := Lib.hid (HG.out k)
        have HB := Lib.hid hb
        clear hb
        cases inn
        all_goals
          have HS2 := HS.out
          rw [HB.out] at HS2
          have HS3 := Lib.hid HS2
          clear HS2
          go_wp2_with fail
          go_round
          case rel => exact ⟨k + 1, by omega, by go_num, by rw [HS3.out]; first | rfl | (rw [HO.out]; rfl) | (simp; done) | (rw [HO.out]; simp; done)⟩
          case measure => simp [intOf]; omega
    · obtain rfl : k = size := by omega
      go_wp2_with fail
      go_ret
      exact ⟨rfl, rfl⟩
end Go.Proofs.Ytbfegghkipoppaa
namespace Go.Proofs.Ytbfegghkipoppaa
set_option maxRecDepth 100000
open Go.RowKit
set_option linter.unusedVariables false

theorem low_eq (x : Int) (h0 : 0 ≤ x) (h1 : x < 18446744073709551616) : bits BinOp.and .u64 x 4294967295 = x % 4294967296 := by
  obtain ⟨n, rfl⟩ := Int.eq_ofNat_of_zero_le h0
  rw [show (4294967295 : Int) = ((2 ^ 32 - 1 : Nat) : Int) by decide, u64_and_nat _ _ (by omega) (by decide), Nat.and_two_pow_sub_one_eq_mod]
  simp
theorem w64 (x : Int) : IntKind.u64.wrap x = x % 18446744073709551616 := IntKind.wrap_u64 x
theorem w32 (x : Int) : IntKind.u32.wrap x = x % 4294967296 := IntKind.wrap_u32 x
theorem low_wrap (x : Int) : bits BinOp.and .u64 (IntKind.u64.wrap x) 4294967295 = IntKind.u32.wrap x := by
  have h := w64 x
  rw [low_eq _ (by rw [h]; omega) (by rw [h]; omega), h, w32]
  omega
theorem low_nat (x : Nat) (h : x < 4294967296) : bits BinOp.and .u64 (x : Int) 4294967295 = (x : Int) := by
  rw [low_eq _ (by omega) (by omega)]; omega

theorem div_nat (a b : Nat) : ((a : Int) / (b : Int)) = ((a / b : Nat) : Int) := by simp
theorem mod_nat (a b : Nat) : ((a : Int) % (b : Int)) = ((a % b : Nat) : Int) := by simp
theorem div_w (a b : Nat) (ha : a < 18446744073709551616) : IntKind.u64.wrap ((a : Int) / b) = (a : Int) / b := by
  have := Nat.div_le_self a b
  rw [w64, div_nat]; generalize a / b = q at *; omega
theorem mod_w (a b : Nat) (ha : a < 18446744073709551616) : IntKind.u64.wrap ((a : Int) - IntKind.u64.wrap (IntKind.u64.wrap ((a : Int) / b) * b)) = (a : Int) % b := by
  have h1 := Nat.div_add_mod a b
  have h2 : a / b * b ≤ a := Nat.div_mul_le_self a b
  have h3 : (a : Int) / b * b = ((a / b * b : Nat) : Int) := by simp
  rw [div_w a b ha, h3, w64, w64, mod_nat]
  have h4 : a / b * b + a % b = a := by rw [Nat.mul_comm]; exact h1
  omega

theorem each_and (a b : Nat) (ha : a < 18446744073709551616) (hb : b < 18446744073709551616) : ((gather (fun j => eachBit 6 (a.testBit j) (b.testBit j)) 64 : Nat) : Int) = ((a &&& b : Nat) : Int) := by
  congr 1; exact gather_and a b ha
theorem each_or (a b : Nat) (ha : a < 18446744073709551616) (hb : b < 18446744073709551616) : ((gather (fun j => eachBit 7 (a.testBit j) (b.testBit j)) 64 : Nat) : Int) = ((a ||| b : Nat) : Int) := by
  congr 1; exact gather_or a b ha hb
theorem each_xor (a b : Nat) (ha : a < 18446744073709551616) (hb : b < 18446744073709551616) : ((gather (fun j => eachBit 8 (a.testBit j) (b.testBit j)) 64 : Nat) : Int) = ((a ^^^ b : Nat) : Int) := by
  congr 1; exact gather_xor a b ha hb

theorem mod_casts (b m : Nat) : ((b : Int) % (m : Int)) = ((b % m : Nat) : Int) := by simp
theorem up_w (a b : Nat) : ((movedN a ((b : Int) % 64) 64 false 64 : Nat) : Int) = IntKind.u64.wrap (a * 2 ^ ((b : Int) % 64).toNat) := by
  have e : (b : Int) % 64 = ((b % 64 : Nat) : Int) := mod_casts b 64
  rw [e, moved_up a (b % 64) 64 (Nat.mod_lt _ (by omega)), w64, Int.toNat_natCast]
  generalize b % 64 = s
  simp
theorem up_n (a b : Nat) : ((movedN a ((b : Int) % 32) 32 false 32 : Nat) : Int) = IntKind.u32.wrap (a * 2 ^ ((b : Int) % 32).toNat) := by
  have e : (b : Int) % 32 = ((b % 32 : Nat) : Int) := mod_casts b 32
  rw [e, moved_up a (b % 32) 32 (Nat.mod_lt _ (by omega)), w32, Int.toNat_natCast]
  generalize b % 32 = s
  simp
theorem down_w (a b : Nat) (ha : a < 18446744073709551616) : ((movedN a (-((b : Int) % 64)) 64 false 64 : Nat) : Int) = (a : Int) / 2 ^ ((b : Int) % 64).toNat := by
  have e : (b : Int) % 64 = ((b % 64 : Nat) : Int) := mod_casts b 64
  rw [e, moved_down a (b % 64) 64 ha (Nat.mod_lt _ (by omega)), Int.toNat_natCast]
  generalize b % 64 = s
  simp
theorem down_n (a b : Nat) (ha : a < 4294967296) : ((movedN a (-((b : Int) % 32)) 32 false 32 : Nat) : Int) = (a : Int) / 2 ^ ((b : Int) % 32).toNat := by
  have e : (b : Int) % 32 = ((b % 32 : Nat) : Int) := mod_casts b 32
  rw [e, moved_down a (b % 32) 32 ha (Nat.mod_lt _ (by omega)), Int.toNat_natCast]
  generalize b % 32 = s
  simp
theorem moved_lt (a : Nat) (d : Int) (size : Nat) (inn : Bool) : movedN a d size inn size < 2 ^ size := gather_lt _ _

/-- Down with the sign. -/
theorem sar_nat (a s n : Nat) (ha : a < 2 ^ n) (hs : s < n) (M : Int) (hM : M = 2 ^ n) (x : Int) (hx : x = if a.testBit (n - 1) then (a : Int) - M else a) :
    ((movedN a (-(s : Int)) n (a.testBit (n - 1)) n : Nat) : Int) = (x / 2 ^ s) % M := by
  have hp : (0 : Int) < 2 ^ s := Int.pow_pos (by omega)
  have hMp : (0 : Int) < M := by rw [hM]; exact Int.pow_pos (by omega)
  cases ht : a.testBit (n - 1) with
  | false =>
    rw [ht] at hx
    simp at hx
    rw [moved_down a s n ha hs, hx]
    have h1 : ((a : Int) / 2 ^ s) = ((a / 2 ^ s : Nat) : Int) := by simp
    rw [h1]
    have h2 : ((a / 2 ^ s : Nat) : Int) < M := by
      rw [hM]
      have : a / 2 ^ s < 2 ^ n := Nat.lt_of_le_of_lt (Nat.div_le_self _ _) ha
      have h3 : ((a / 2 ^ s : Nat) : Int) < ((2 ^ n : Nat) : Int) := Int.ofNat_lt.2 this
      simpa using h3
    rw [Int.emod_eq_of_lt (Int.natCast_nonneg _) h2]
  | true =>
    rw [ht] at hx
    simp at hx
    rw [moved_sign a s n ha hs]
    have e1 : M = 2 ^ (n - s) * 2 ^ s := by rw [hM, ← Int.pow_add]; congr 1; omega
    have e2 : x / 2 ^ s = (a : Int) / 2 ^ s - 2 ^ (n - s) := by
      rw [hx, e1, show (a : Int) - 2 ^ (n - s) * 2 ^ s = a + (-(2 ^ (n - s))) * 2 ^ s by rw [Int.neg_mul, Int.sub_eq_add_neg], Int.add_mul_ediv_right _ _ (by omega)]
      omega
    have hq : a / 2 ^ s < 2 ^ (n - s) := by
      rw [Nat.div_lt_iff_lt_mul (Nat.pow_pos (by omega)), ← Nat.pow_add, show n - s + s = n by omega]; exact ha
    have h1 : 2 ^ (n - s) * (2 ^ s - 1) + 2 ^ (n - s) = 2 ^ n := by
      rw [Nat.mul_sub, ← Nat.pow_add, show n - s + s = n by omega, Nat.mul_one]
      have : 2 ^ (n - s) ≤ 2 ^ n := Nat.pow_le_pow_right (by omega) (by omega)
      omega
    have hM' : M = ((2 ^ n : Nat) : Int) := by rw [hM]; simp
    have e3 : ((a : Int) / 2 ^ s) = ((a / 2 ^ s : Nat) : Int) := by simp
    have e4 : ((2 : Int) ^ (n - s)) = ((2 ^ (n - s) : Nat) : Int) := by simp
    rw [e2, e3, e4, hM']
    generalize a / 2 ^ s = q at *
    generalize 2 ^ (n - s) * (2 ^ s - 1) = r at *
    generalize 2 ^ (n - s) = t at *
    generalize 2 ^ n = m at *
    have e5 : ((q : Int) - t) % m = (q : Int) - t + m := by
      rw [← Int.add_emod_right]
      exact Int.emod_eq_of_lt (by omega) (by omega)
    rw [e5]
    omega
theorem top_bit (a n : Nat) (ha : a < 2 ^ (n + 1)) : a.testBit n = decide (2 ^ n ≤ a) := by
  rw [Nat.testBit_eq_decide_div_mod_eq]
  congr 1
  have hp : 0 < 2 ^ n := Nat.pow_pos (by omega)
  rw [Nat.pow_succ] at ha
  have h1 : a / 2 ^ n < 2 := by rw [Nat.div_lt_iff_lt_mul hp]; omega
  rw [Nat.mod_eq_of_lt h1]
  by_cases h : 2 ^ n ≤ a
  · have : 1 ≤ a / 2 ^ n := by rw [Nat.le_div_iff_mul_le hp]; omega
    simp [h]; omega
  · have : a / 2 ^ n = 0 := Nat.div_eq_of_lt (by omega)
    simp [h, this]
theorem sar_w (a b : Nat) (ha : a < 18446744073709551616) : ((movedN a (-((b : Int) % 64)) 64 (a.testBit 63) 64 : Nat) : Int) = IntKind.u64.wrap (IntKind.i64.wrap a / 2 ^ ((b : Int) % 64).toNat) := by
  have e : (b : Int) % 64 = ((b % 64 : Nat) : Int) := mod_casts b 64
  have ht := top_bit a 63 ha
  rw [e, w64, sar_nat a (b % 64) 64 ha (Nat.mod_lt _ (by omega)) 18446744073709551616 (by decide) (IntKind.i64.wrap a) ?_, Int.toNat_natCast]
  · rw [ht, IntKind.wrap_i64]
    by_cases h : 2 ^ 63 ≤ a
    · simp [h]; omega
    · simp [h]; omega
theorem sar_n (a b : Nat) (ha : a < 4294967296) : ((movedN a (-((b : Int) % 32)) 32 (a.testBit 31) 32 : Nat) : Int) = IntKind.u32.wrap (IntKind.i32.wrap a / 2 ^ ((b : Int) % 32).toNat) := by
  have e : (b : Int) % 32 = ((b % 32 : Nat) : Int) := mod_casts b 32
  have ht := top_bit a 31 ha
  rw [e, w32, sar_nat a (b % 32) 32 ha (Nat.mod_lt _ (by omega)) 4294967296 (by decide) (IntKind.i32.wrap a) ?_, Int.toNat_natCast]
  · rw [ht, IntKind.wrap_i32]
    by_cases h : 2 ^ 31 ≤ a
    · simp [h]; omega
    · simp [h]; omega
end Go.Proofs.Ytbfegghkipoppaa
