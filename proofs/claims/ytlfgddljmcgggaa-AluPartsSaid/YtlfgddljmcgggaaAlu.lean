/- alu.Do, alu.Is, alu.Wide, over this seat's program. -/
import Derived.Test.YtlfgddljmcgggaaIs
namespace Go.Proofs.Ytlfgddljmcgggaa
open Go.RowKit
set_option linter.unusedVariables false

/-- The error of a question. -/
def isE (op : Int) : Int := if 17 ≤ op ∧ op ≤ 27 then 0 else 2

theorem is32_any (op a b : Int) (w : World) (h0 : 0 ≤ op) (ha0 : 0 ≤ a) (ha1 : a ≤ 4294967295) (hb0 : 0 ≤ b) (hb1 : b ≤ 4294967295) :
    Calls Try.prog 20 #[.int .u8 op, .int .u32 a, .int .u32 b] w fun e w' => e = .returned (.tuple #[.bool (isV .u32 .i32 op.toNat a b), .int .i64 (isE op)]) ∧ w = w' := by
  by_cases h : 17 ≤ op ∧ op ≤ 27
  · have hc : op = 17 ∨ op = 18 ∨ op = 19 ∨ op = 20 ∨ op = 21 ∨ op = 22 ∨ op = 23 ∨ op = 24 ∨ op = 25 ∨ op = 26 ∨ op = 27 := by omega
    rcases hc with rfl | rfl | rfl | rfl | rfl | rfl | rfl | rfl | rfl | rfl | rfl
    · rw [show isE 17 = 0 by decide]
      exact is32_17 a b w ha0 ha1 hb0 hb1
    · rw [show isE 18 = 0 by decide]
      exact is32_18 a b w ha0 ha1 hb0 hb1
    · rw [show isE 19 = 0 by decide]
      exact is32_19 a b w ha0 ha1 hb0 hb1
    · rw [show isE 20 = 0 by decide]
      exact is32_20 a b w ha0 ha1 hb0 hb1
    · rw [show isE 21 = 0 by decide]
      exact is32_21 a b w ha0 ha1 hb0 hb1
    · rw [show isE 22 = 0 by decide]
      exact is32_22 a b w ha0 ha1 hb0 hb1
    · rw [show isE 23 = 0 by decide]
      exact is32_23 a b w ha0 ha1 hb0 hb1
    · rw [show isE 24 = 0 by decide]
      exact is32_24 a b w ha0 ha1 hb0 hb1
    · rw [show isE 25 = 0 by decide]
      exact is32_25 a b w ha0 ha1 hb0 hb1
    · rw [show isE 26 = 0 by decide]
      exact is32_26 a b w ha0 ha1 hb0 hb1
    · rw [show isE 27 = 0 by decide]
      exact is32_27 a b w ha0 ha1 hb0 hb1
  · have e1 : isE op = 2 := by simp [isE, h]
    have e2 : isV .u32 .i32 op.toNat a b = false := by
      obtain ⟨n, rfl⟩ := Int.eq_ofNat_of_zero_le h0
      unfold isV
      split <;> first | rfl | (exfalso; simp_all)
    rw [e1, e2]
    exact is32_no op a b w (beq_eq_false_iff_ne.2 (by omega)) (beq_eq_false_iff_ne.2 (by omega)) (beq_eq_false_iff_ne.2 (by omega)) (beq_eq_false_iff_ne.2 (by omega)) (beq_eq_false_iff_ne.2 (by omega)) (beq_eq_false_iff_ne.2 (by omega)) (beq_eq_false_iff_ne.2 (by omega)) (beq_eq_false_iff_ne.2 (by omega)) (beq_eq_false_iff_ne.2 (by omega)) (beq_eq_false_iff_ne.2 (by omega)) (beq_eq_false_iff_ne.2 (by omega))

theorem is64_any (op a b : Int) (w : World) (h0 : 0 ≤ op) (ha0 : 0 ≤ a) (ha1 : a ≤ 18446744073709551615) (hb0 : 0 ≤ b) (hb1 : b ≤ 18446744073709551615) :
    Calls Try.prog 21 #[.int .u8 op, .int .u64 a, .int .u64 b] w fun e w' => e = .returned (.tuple #[.bool (isV .u64 .i64 op.toNat a b), .int .i64 (isE op)]) ∧ w = w' := by
  by_cases h : 17 ≤ op ∧ op ≤ 27
  · have hc : op = 17 ∨ op = 18 ∨ op = 19 ∨ op = 20 ∨ op = 21 ∨ op = 22 ∨ op = 23 ∨ op = 24 ∨ op = 25 ∨ op = 26 ∨ op = 27 := by omega
    rcases hc with rfl | rfl | rfl | rfl | rfl | rfl | rfl | rfl | rfl | rfl | rfl
    · rw [show isE 17 = 0 by decide]
      exact is64_17 a b w ha0 ha1 hb0 hb1
    · rw [show isE 18 = 0 by decide]
      exact is64_18 a b w ha0 ha1 hb0 hb1
    · rw [show isE 19 = 0 by decide]
      exact is64_19 a b w ha0 ha1 hb0 hb1
    · rw [show isE 20 = 0 by decide]
      exact is64_20 a b w ha0 ha1 hb0 hb1
    · rw [show isE 21 = 0 by decide]
      exact is64_21 a b w ha0 ha1 hb0 hb1
    · rw [show isE 22 = 0 by decide]
      exact is64_22 a b w ha0 ha1 hb0 hb1
    · rw [show isE 23 = 0 by decide]
      exact is64_23 a b w ha0 ha1 hb0 hb1
    · rw [show isE 24 = 0 by decide]
      exact is64_24 a b w ha0 ha1 hb0 hb1
    · rw [show isE 25 = 0 by decide]
      exact is64_25 a b w ha0 ha1 hb0 hb1
    · rw [show isE 26 = 0 by decide]
      exact is64_26 a b w ha0 ha1 hb0 hb1
    · rw [show isE 27 = 0 by decide]
      exact is64_27 a b w ha0 ha1 hb0 hb1
  · have e1 : isE op = 2 := by simp [isE, h]
    have e2 : isV .u64 .i64 op.toNat a b = false := by
      obtain ⟨n, rfl⟩ := Int.eq_ofNat_of_zero_le h0
      unfold isV
      split <;> first | rfl | (exfalso; simp_all)
    rw [e1, e2]
    exact is64_no op a b w (beq_eq_false_iff_ne.2 (by omega)) (beq_eq_false_iff_ne.2 (by omega)) (beq_eq_false_iff_ne.2 (by omega)) (beq_eq_false_iff_ne.2 (by omega)) (beq_eq_false_iff_ne.2 (by omega)) (beq_eq_false_iff_ne.2 (by omega)) (beq_eq_false_iff_ne.2 (by omega)) (beq_eq_false_iff_ne.2 (by omega)) (beq_eq_false_iff_ne.2 (by omega)) (beq_eq_false_iff_ne.2 (by omega)) (beq_eq_false_iff_ne.2 (by omega))


/-- What Do tells: the number, the error; what Is tells. -/
def DoV (nar : Bool) (op a b : Int) : Int := if nar then dVal .u32 .i32 32 op (a % 4294967296) (b % 4294967296) else dVal .u64 .i64 64 op a b
def DoE (nar : Bool) (op b : Int) : Int := if nar then dErr op (b % 4294967296) else dErr op b
def IsV (nar : Bool) (op a b : Int) : Bool := if nar then isV .u32 .i32 op.toNat (a % 4294967296) (b % 4294967296) else isV .u64 .i64 op.toNat a b

theorem dVal32_range (op a b : Int) (ha0 : 0 ≤ a) (ha1 : a ≤ 4294967295) (hb0 : 0 ≤ b) (hb1 : b ≤ 4294967295) : 0 ≤ dVal .u32 .i32 32 op a b ∧ dVal .u32 .i32 32 op a b ≤ 4294967295 := by
  unfold dVal
  split
  · exact opV32_range _ _ _ ha0 ha1 hb0 hb1
  · omega

theorem Do_any (nar : Bool) (op a b : Int) (w : World) (ha0 : 0 ≤ a) (ha1 : a ≤ 18446744073709551615) (hb0 : 0 ≤ b) (hb1 : b ≤ 18446744073709551615) :
    Calls Try.prog 9 #[.int .u8 op, .bool nar, .int .u64 a, .int .u64 b] w fun e w' => e = .returned (.tuple #[.int .u64 (DoV nar op a b), .int .i64 (DoE nar op b)]) ∧ Below w.heap.size w w' := by
  cases nar with
  | true =>
    have hr := dVal32_range op (a % 4294967296) (b % 4294967296) (by omega) (by omega) (by omega) (by omega)
    obtain ⟨hr1, hr2⟩ := hr
    go_enter Try.func9, Try.ntmps9
    go_wp2_with fail
    refine (do32_any op (a % 4294967296) (b % 4294967296) _ (by omega) (by omega) (by omega) (by omega)).mono ?_
    rintro e w1 ⟨rfl, hb⟩
    go_wp2_with fail
    go_ret2
    exact ⟨rfl, hb⟩
  | false =>
    go_enter Try.func9, Try.ntmps9
    go_wp2_with fail
    refine (do64_any op a b _ ha0 ha1 hb0 hb1).mono ?_
    rintro e w1 ⟨rfl, hb⟩
    go_wp2_with fail
    go_ret2
    exact ⟨rfl, hb⟩

theorem Is_any (nar : Bool) (op a b : Int) (w : World) (h0 : 0 ≤ op) (ha0 : 0 ≤ a) (ha1 : a ≤ 18446744073709551615) (hb0 : 0 ≤ b) (hb1 : b ≤ 18446744073709551615) :
    Calls Try.prog 11 #[.int .u8 op, .bool nar, .int .u64 a, .int .u64 b] w fun e w' => e = .returned (.tuple #[.bool (IsV nar op a b), .int .i64 (isE op)]) ∧ w = w' := by
  cases nar with
  | true =>
    go_enter Try.func11, Try.ntmps11
    go_wp2_with fail
    refine (is32_any op (a % 4294967296) (b % 4294967296) _ h0 (by omega) (by omega) (by omega) (by omega)).mono ?_
    rintro e w1 ⟨rfl, rfl⟩
    go_wp2_with fail
    go_ret2
    exact ⟨rfl, rfl⟩
  | false =>
    go_enter Try.func11, Try.ntmps11
    go_wp2_with fail
    refine (is64_any op a b _ h0 ha0 ha1 hb0 hb1).mono ?_
    rintro e w1 ⟨rfl, rfl⟩
    go_wp2_with fail
    go_ret2
    exact ⟨rfl, rfl⟩

theorem Wide_any (n : Int) (w : World) : Calls Try.prog 13 #[.int .i64 n] w fun e w' => e = .returned (.int .u64 (IntKind.u64.wrap n)) ∧ w = w' := by
  go_enter Try.func13, Try.ntmps13
  go_wp2
  go_ret
  exact ⟨rfl, rfl⟩
theorem rWide_any (n : Int) (w : World) : Calls Try.prog 14 #[.int .i64 n] w fun e w' => e = .returned (.int .u64 (IntKind.u64.wrap n)) ∧ w = w' := by
  go_enter Try.func14, Try.ntmps14
  go_wp2
  go_ret
  exact ⟨rfl, rfl⟩

end Go.Proofs.Ytlfgddljmcgggaa
