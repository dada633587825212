/- The reference's Is (barbicanref01), over this seat's program. -/
import Derived.Test.YtlfgddljmcgggaaRDo
namespace Go.Proofs.Ytlfgddljmcgggaa
open Go.RowKit
set_option linter.unusedVariables false

theorem xor_top (x k : Nat) (hx : x < 2 ^ (k + 1)) : x ^^^ 2 ^ k = (2 ^ k + x) % 2 ^ (k + 1) := by
  apply Nat.eq_of_testBit_eq
  intro j
  rw [Nat.testBit_xor, Nat.testBit_two_pow, Nat.testBit_mod_two_pow]
  rcases Nat.lt_trichotomy j k with h | h | h
  · rw [Nat.testBit_two_pow_add_gt h]
    simp [show ¬ k = j by omega, show j < k + 1 by omega]
  · subst h
    rw [Nat.testBit_two_pow_add_eq]
    simp
  · rw [Nat.testBit_lt_two_pow (Nat.lt_of_lt_of_le hx (Nat.pow_le_pow_right (by omega) (by omega : k + 1 ≤ j)))]
    simp [show ¬ k = j by omega, show ¬ j < k + 1 by omega]
theorem xor_w (a : Nat) (ha : a < 18446744073709551616) : bits BinOp.xor .u64 (a : Int) 9223372036854775808 = IntKind.i64.wrap a + 9223372036854775808 := by
  rw [show (9223372036854775808 : Int) = ((2 ^ 63 : Nat) : Int) by decide, u64_xor_nat a _ ha (by decide), xor_top a 63 ha, IntKind.wrap_i64]
  omega
theorem xor_n (a : Nat) (ha : a < 4294967296) : bits BinOp.xor .u64 (a : Int) 2147483648 = IntKind.i32.wrap a + 2147483648 := by
  rw [show (2147483648 : Int) = ((2 ^ 31 : Nat) : Int) by decide, u64_xor_nat a _ (by omega) (by decide), xor_top a 31 ha, IntKind.wrap_i32]
  omega
theorem dec_lt (x y m : Int) : decide (x + m < y + m) = decide (x < y) := by
  rw [Bool.eq_iff_iff]; simp
theorem dec_le (x y m : Int) : decide (x + m ≤ y + m) = decide (x ≤ y) := by
  rw [Bool.eq_iff_iff]; simp

theorem ris_w_17 (a b : Nat) (w : World) (ha : a < 18446744073709551616) (hb : b < 18446744073709551616) :
    Calls Try.prog 12 #[.int .u8 17, .bool false, .int .u64 a, .int .u64 b] w fun e w' => e = .returned (.tuple #[.bool (isV .u64 .i64 17 a b), .int .i64 0]) ∧ w = w' := by
  go_enter Try.func12, Try.ntmps12
  go_wp2_with fail
  go_ret2
  exact ⟨rfl, rfl⟩

theorem ris_w_18 (a b : Nat) (w : World) (ha : a < 18446744073709551616) (hb : b < 18446744073709551616) :
    Calls Try.prog 12 #[.int .u8 18, .bool false, .int .u64 a, .int .u64 b] w fun e w' => e = .returned (.tuple #[.bool (isV .u64 .i64 18 a b), .int .i64 0]) ∧ w = w' := by
  go_enter Try.func12, Try.ntmps12
  go_wp2_with fail
  go_ret2
  exact ⟨rfl, rfl⟩

theorem ris_w_19 (a b : Nat) (w : World) (ha : a < 18446744073709551616) (hb : b < 18446744073709551616) :
    Calls Try.prog 12 #[.int .u8 19, .bool false, .int .u64 a, .int .u64 b] w fun e w' => e = .returned (.tuple #[.bool (isV .u64 .i64 19 a b), .int .i64 0]) ∧ w = w' := by
  have HE : Hid (decide (b < a) = decide ((b : Int) < (a : Int))) := Lib.hid (by rw [Bool.eq_iff_iff]; simp)
  go_enter Try.func12, Try.ntmps12
  go_wp2_with fail
  go_ret2
  refine ⟨?_, rfl⟩
  show _ = Ending.returned (.tuple #[.bool (decide ((b : Int) < (a : Int))), .int .i64 0])
  rw [← HE.out]
  rfl

theorem ris_w_20 (a b : Nat) (w : World) (ha : a < 18446744073709551616) (hb : b < 18446744073709551616) :
    Calls Try.prog 12 #[.int .u8 20, .bool false, .int .u64 a, .int .u64 b] w fun e w' => e = .returned (.tuple #[.bool (isV .u64 .i64 20 a b), .int .i64 0]) ∧ w = w' := by
  have HE : Hid (decide (b ≤ a) = decide ((b : Int) ≤ (a : Int))) := Lib.hid (by rw [Bool.eq_iff_iff]; simp)
  go_enter Try.func12, Try.ntmps12
  go_wp2_with fail
  go_ret2
  refine ⟨?_, rfl⟩
  show _ = Ending.returned (.tuple #[.bool (decide ((b : Int) ≤ (a : Int))), .int .i64 0])
  rw [← HE.out]
  rfl

theorem ris_w_21 (a b : Nat) (w : World) (ha : a < 18446744073709551616) (hb : b < 18446744073709551616) :
    Calls Try.prog 12 #[.int .u8 21, .bool false, .int .u64 a, .int .u64 b] w fun e w' => e = .returned (.tuple #[.bool (isV .u64 .i64 21 a b), .int .i64 0]) ∧ w = w' := by
  have HE : Hid (decide (a < b) = decide ((a : Int) < (b : Int))) := Lib.hid (by rw [Bool.eq_iff_iff]; simp)
  go_enter Try.func12, Try.ntmps12
  go_wp2_with fail
  go_ret2
  refine ⟨?_, rfl⟩
  show _ = Ending.returned (.tuple #[.bool (decide ((a : Int) < (b : Int))), .int .i64 0])
  rw [← HE.out]
  rfl

theorem ris_w_22 (a b : Nat) (w : World) (ha : a < 18446744073709551616) (hb : b < 18446744073709551616) :
    Calls Try.prog 12 #[.int .u8 22, .bool false, .int .u64 a, .int .u64 b] w fun e w' => e = .returned (.tuple #[.bool (isV .u64 .i64 22 a b), .int .i64 0]) ∧ w = w' := by
  have HE : Hid (decide (a ≤ b) = decide ((a : Int) ≤ (b : Int))) := Lib.hid (by rw [Bool.eq_iff_iff]; simp)
  go_enter Try.func12, Try.ntmps12
  go_wp2_with fail
  go_ret2
  refine ⟨?_, rfl⟩
  show _ = Ending.returned (.tuple #[.bool (decide ((a : Int) ≤ (b : Int))), .int .i64 0])
  rw [← HE.out]
  rfl

theorem ris_w_23 (a b : Nat) (w : World) (ha : a < 18446744073709551616) (hb : b < 18446744073709551616) :
    Calls Try.prog 12 #[.int .u8 23, .bool false, .int .u64 a, .int .u64 b] w fun e w' => e = .returned (.tuple #[.bool (isV .u64 .i64 23 a b), .int .i64 0]) ∧ w = w' := by
  have HE : Hid (decide (bits BinOp.xor .u64 (b : Int) 9223372036854775808 < bits BinOp.xor .u64 (a : Int) 9223372036854775808) = decide (IntKind.i64.wrap (b : Int) < IntKind.i64.wrap (a : Int))) := Lib.hid (by rw [xor_w a ha, xor_w b hb]; exact dec_lt _ _ _)
  go_enter Try.func12, Try.ntmps12
  go_wp2_with fail
  go_ret2
  refine ⟨?_, rfl⟩
  show _ = Ending.returned (.tuple #[.bool (decide (IntKind.i64.wrap (b : Int) < IntKind.i64.wrap (a : Int))), .int .i64 0])
  rw [← HE.out]
  rfl

theorem ris_w_24 (a b : Nat) (w : World) (ha : a < 18446744073709551616) (hb : b < 18446744073709551616) :
    Calls Try.prog 12 #[.int .u8 24, .bool false, .int .u64 a, .int .u64 b] w fun e w' => e = .returned (.tuple #[.bool (isV .u64 .i64 24 a b), .int .i64 0]) ∧ w = w' := by
  have HE : Hid (decide (bits BinOp.xor .u64 (b : Int) 9223372036854775808 ≤ bits BinOp.xor .u64 (a : Int) 9223372036854775808) = decide (IntKind.i64.wrap (b : Int) ≤ IntKind.i64.wrap (a : Int))) := Lib.hid (by rw [xor_w a ha, xor_w b hb]; exact dec_le _ _ _)
  go_enter Try.func12, Try.ntmps12
  go_wp2_with fail
  go_ret2
  refine ⟨?_, rfl⟩
  show _ = Ending.returned (.tuple #[.bool (decide (IntKind.i64.wrap (b : Int) ≤ IntKind.i64.wrap (a : Int))), .int .i64 0])
  rw [← HE.out]
  rfl

theorem ris_w_25 (a b : Nat) (w : World) (ha : a < 18446744073709551616) (hb : b < 18446744073709551616) :
    Calls Try.prog 12 #[.int .u8 25, .bool false, .int .u64 a, .int .u64 b] w fun e w' => e = .returned (.tuple #[.bool (isV .u64 .i64 25 a b), .int .i64 0]) ∧ w = w' := by
  have HE : Hid (decide (bits BinOp.xor .u64 (a : Int) 9223372036854775808 < bits BinOp.xor .u64 (b : Int) 9223372036854775808) = decide (IntKind.i64.wrap (a : Int) < IntKind.i64.wrap (b : Int))) := Lib.hid (by rw [xor_w a ha, xor_w b hb]; exact dec_lt _ _ _)
  go_enter Try.func12, Try.ntmps12
  go_wp2_with fail
  go_ret2
  refine ⟨?_, rfl⟩
  show _ = Ending.returned (.tuple #[.bool (decide (IntKind.i64.wrap (a : Int) < IntKind.i64.wrap (b : Int))), .int .i64 0])
  rw [← HE.out]
  rfl

theorem ris_w_26 (a b : Nat) (w : World) (ha : a < 18446744073709551616) (hb : b < 18446744073709551616) :
    Calls Try.prog 12 #[.int .u8 26, .bool false, .int .u64 a, .int .u64 b] w fun e w' => e = .returned (.tuple #[.bool (isV .u64 .i64 26 a b), .int .i64 0]) ∧ w = w' := by
  have HE : Hid (decide (bits BinOp.xor .u64 (a : Int) 9223372036854775808 ≤ bits BinOp.xor .u64 (b : Int) 9223372036854775808) = decide (IntKind.i64.wrap (a : Int) ≤ IntKind.i64.wrap (b : Int))) := Lib.hid (by rw [xor_w a ha, xor_w b hb]; exact dec_le _ _ _)
  go_enter Try.func12, Try.ntmps12
  go_wp2_with fail
  go_ret2
  refine ⟨?_, rfl⟩
  show _ = Ending.returned (.tuple #[.bool (decide (IntKind.i64.wrap (a : Int) ≤ IntKind.i64.wrap (b : Int))), .int .i64 0])
  rw [← HE.out]
  rfl

theorem ris_w_27 (a b : Nat) (w : World) (ha : a < 18446744073709551616) (hb : b < 18446744073709551616) :
    Calls Try.prog 12 #[.int .u8 27, .bool false, .int .u64 a, .int .u64 b] w fun e w' => e = .returned (.tuple #[.bool (isV .u64 .i64 27 a b), .int .i64 0]) ∧ w = w' := by
  have HE : Hid (((gather (fun j => eachBit 6 (a.testBit j) (b.testBit j)) 64 : Nat) : Int) = bits BinOp.and .u64 a b) := Lib.hid (by rw [each_and a b (by omega) (by omega), u64_and_nat a b (by omega) (by omega)])
  go_enter Try.func12, Try.ntmps12
  go_wp2_with fail
  refine (each_any 6 a b _ (by omega) (by omega) (by omega)).mono ?_
  rintro e w1 ⟨rfl, rfl⟩
  go_wp2_with fail
  go_ret2
  refine ⟨?_, rfl⟩
  show _ = Ending.returned (.tuple #[.bool (bits BinOp.and .u64 a b != 0), .int .i64 0])
  rw [← HE.out]
  rfl

theorem ris_w_no (op : Int) (a b : Nat) (w : World) (ha : a < 18446744073709551616) (hb : b < 18446744073709551616) (hlo : op < 17 ∨ 27 < op) (h17 : (op == 17) = false) (h18 : (op == 18) = false) (h19 : (op == 19) = false) (h20 : (op == 20) = false) (h21 : (op == 21) = false) (h22 : (op == 22) = false) (h23 : (op == 23) = false) (h24 : (op == 24) = false) (h25 : (op == 25) = false) (h26 : (op == 26) = false) (h27 : (op == 27) = false) :
    Calls Try.prog 12 #[.int .u8 op, .bool false, .int .u64 a, .int .u64 b] w fun e w' => e = .returned (.tuple #[.bool false, .int .i64 2]) ∧ w = w' := by
  rcases hlo with hlo | hlo
  · have hd : decide (23 ≤ op) = false := decide_eq_false (by omega)
    go_enter Try.func12, Try.ntmps12
    go_wp2_with fail
    go_ret2
    exact ⟨rfl, rfl⟩
  · have hd : decide (23 ≤ op) = true := decide_eq_true (by omega)
    have hd2 : decide (op ≤ 26) = false := decide_eq_false (by omega)
    go_enter Try.func12, Try.ntmps12
    go_wp2_with fail
    go_ret2
    exact ⟨rfl, rfl⟩

theorem ris_n_17 (a b A B : Nat) (w : World) (ha : a < 18446744073709551616) (hb : b < 18446744073709551616) (hA : bits BinOp.and .u64 (a : Int) 4294967295 = (A : Int)) (hA2 : A < 4294967296) (hB : bits BinOp.and .u64 (b : Int) 4294967295 = (B : Int)) (hB2 : B < 4294967296) :
    Calls Try.prog 12 #[.int .u8 17, .bool true, .int .u64 a, .int .u64 b] w fun e w' => e = .returned (.tuple #[.bool (isV .u32 .i32 17 A B), .int .i64 0]) ∧ w = w' := by
  go_enter Try.func12, Try.ntmps12
  go_wp2_with fail
  go_ret2
  exact ⟨rfl, rfl⟩

theorem ris_n_18 (a b A B : Nat) (w : World) (ha : a < 18446744073709551616) (hb : b < 18446744073709551616) (hA : bits BinOp.and .u64 (a : Int) 4294967295 = (A : Int)) (hA2 : A < 4294967296) (hB : bits BinOp.and .u64 (b : Int) 4294967295 = (B : Int)) (hB2 : B < 4294967296) :
    Calls Try.prog 12 #[.int .u8 18, .bool true, .int .u64 a, .int .u64 b] w fun e w' => e = .returned (.tuple #[.bool (isV .u32 .i32 18 A B), .int .i64 0]) ∧ w = w' := by
  go_enter Try.func12, Try.ntmps12
  go_wp2_with fail
  go_ret2
  exact ⟨rfl, rfl⟩

theorem ris_n_19 (a b A B : Nat) (w : World) (ha : a < 18446744073709551616) (hb : b < 18446744073709551616) (hA : bits BinOp.and .u64 (a : Int) 4294967295 = (A : Int)) (hA2 : A < 4294967296) (hB : bits BinOp.and .u64 (b : Int) 4294967295 = (B : Int)) (hB2 : B < 4294967296) :
    Calls Try.prog 12 #[.int .u8 19, .bool true, .int .u64 a, .int .u64 b] w fun e w' => e = .returned (.tuple #[.bool (isV .u32 .i32 19 A B), .int .i64 0]) ∧ w = w' := by
  have HE : Hid (decide (B < A) = decide ((B : Int) < (A : Int))) := Lib.hid (by rw [Bool.eq_iff_iff]; simp)
  go_enter Try.func12, Try.ntmps12
  go_wp2_with fail
  go_ret2
  refine ⟨?_, rfl⟩
  show _ = Ending.returned (.tuple #[.bool (decide ((B : Int) < (A : Int))), .int .i64 0])
  rw [← HE.out]
  rfl

theorem ris_n_20 (a b A B : Nat) (w : World) (ha : a < 18446744073709551616) (hb : b < 18446744073709551616) (hA : bits BinOp.and .u64 (a : Int) 4294967295 = (A : Int)) (hA2 : A < 4294967296) (hB : bits BinOp.and .u64 (b : Int) 4294967295 = (B : Int)) (hB2 : B < 4294967296) :
    Calls Try.prog 12 #[.int .u8 20, .bool true, .int .u64 a, .int .u64 b] w fun e w' => e = .returned (.tuple #[.bool (isV .u32 .i32 20 A B), .int .i64 0]) ∧ w = w' := by
  have HE : Hid (decide (B ≤ A) = decide ((B : Int) ≤ (A : Int))) := Lib.hid (by rw [Bool.eq_iff_iff]; simp)
  go_enter Try.func12, Try.ntmps12
  go_wp2_with fail
  go_ret2
  refine ⟨?_, rfl⟩
  show _ = Ending.returned (.tuple #[.bool (decide ((B : Int) ≤ (A : Int))), .int .i64 0])
  rw [← HE.out]
  rfl

theorem ris_n_21 (a b A B : Nat) (w : World) (ha : a < 18446744073709551616) (hb : b < 18446744073709551616) (hA : bits BinOp.and .u64 (a : Int) 4294967295 = (A : Int)) (hA2 : A < 4294967296) (hB : bits BinOp.and .u64 (b : Int) 4294967295 = (B : Int)) (hB2 : B < 4294967296) :
    Calls Try.prog 12 #[.int .u8 21, .bool true, .int .u64 a, .int .u64 b] w fun e w' => e = .returned (.tuple #[.bool (isV .u32 .i32 21 A B), .int .i64 0]) ∧ w = w' := by
  have HE : Hid (decide (A < B) = decide ((A : Int) < (B : Int))) := Lib.hid (by rw [Bool.eq_iff_iff]; simp)
  go_enter Try.func12, Try.ntmps12
  go_wp2_with fail
  go_ret2
  refine ⟨?_, rfl⟩
  show _ = Ending.returned (.tuple #[.bool (decide ((A : Int) < (B : Int))), .int .i64 0])
  rw [← HE.out]
  rfl

theorem ris_n_22 (a b A B : Nat) (w : World) (ha : a < 18446744073709551616) (hb : b < 18446744073709551616) (hA : bits BinOp.and .u64 (a : Int) 4294967295 = (A : Int)) (hA2 : A < 4294967296) (hB : bits BinOp.and .u64 (b : Int) 4294967295 = (B : Int)) (hB2 : B < 4294967296) :
    Calls Try.prog 12 #[.int .u8 22, .bool true, .int .u64 a, .int .u64 b] w fun e w' => e = .returned (.tuple #[.bool (isV .u32 .i32 22 A B), .int .i64 0]) ∧ w = w' := by
  have HE : Hid (decide (A ≤ B) = decide ((A : Int) ≤ (B : Int))) := Lib.hid (by rw [Bool.eq_iff_iff]; simp)
  go_enter Try.func12, Try.ntmps12
  go_wp2_with fail
  go_ret2
  refine ⟨?_, rfl⟩
  show _ = Ending.returned (.tuple #[.bool (decide ((A : Int) ≤ (B : Int))), .int .i64 0])
  rw [← HE.out]
  rfl

theorem ris_n_23 (a b A B : Nat) (w : World) (ha : a < 18446744073709551616) (hb : b < 18446744073709551616) (hA : bits BinOp.and .u64 (a : Int) 4294967295 = (A : Int)) (hA2 : A < 4294967296) (hB : bits BinOp.and .u64 (b : Int) 4294967295 = (B : Int)) (hB2 : B < 4294967296) :
    Calls Try.prog 12 #[.int .u8 23, .bool true, .int .u64 a, .int .u64 b] w fun e w' => e = .returned (.tuple #[.bool (isV .u32 .i32 23 A B), .int .i64 0]) ∧ w = w' := by
  have HE : Hid (decide (bits BinOp.xor .u64 (B : Int) 2147483648 < bits BinOp.xor .u64 (A : Int) 2147483648) = decide (IntKind.i32.wrap (B : Int) < IntKind.i32.wrap (A : Int))) := Lib.hid (by rw [xor_n A hA2, xor_n B hB2]; exact dec_lt _ _ _)
  go_enter Try.func12, Try.ntmps12
  go_wp2_with fail
  go_ret2
  refine ⟨?_, rfl⟩
  show _ = Ending.returned (.tuple #[.bool (decide (IntKind.i32.wrap (B : Int) < IntKind.i32.wrap (A : Int))), .int .i64 0])
  rw [← HE.out]
  rfl

theorem ris_n_24 (a b A B : Nat) (w : World) (ha : a < 18446744073709551616) (hb : b < 18446744073709551616) (hA : bits BinOp.and .u64 (a : Int) 4294967295 = (A : Int)) (hA2 : A < 4294967296) (hB : bits BinOp.and .u64 (b : Int) 4294967295 = (B : Int)) (hB2 : B < 4294967296) :
    Calls Try.prog 12 #[.int .u8 24, .bool true, .int .u64 a, .int .u64 b] w fun e w' => e = .returned (.tuple #[.bool (isV .u32 .i32 24 A B), .int .i64 0]) ∧ w = w' := by
  have HE : Hid (decide (bits BinOp.xor .u64 (B : Int) 2147483648 ≤ bits BinOp.xor .u64 (A : Int) 2147483648) = decide (IntKind.i32.wrap (B : Int) ≤ IntKind.i32.wrap (A : Int))) := Lib.hid (by rw [xor_n A hA2, xor_n B hB2]; exact dec_le _ _ _)
  go_enter Try.func12, Try.ntmps12
  go_wp2_with fail
  go_ret2
  refine ⟨?_, rfl⟩
  show _ = Ending.returned (.tuple #[.bool (decide (IntKind.i32.wrap (B : Int) ≤ IntKind.i32.wrap (A : Int))), .int .i64 0])
  rw [← HE.out]
  rfl

theorem ris_n_25 (a b A B : Nat) (w : World) (ha : a < 18446744073709551616) (hb : b < 18446744073709551616) (hA : bits BinOp.and .u64 (a : Int) 4294967295 = (A : Int)) (hA2 : A < 4294967296) (hB : bits BinOp.and .u64 (b : Int) 4294967295 = (B : Int)) (hB2 : B < 4294967296) :
    Calls Try.prog 12 #[.int .u8 25, .bool true, .int .u64 a, .int .u64 b] w fun e w' => e = .returned (.tuple #[.bool (isV .u32 .i32 25 A B), .int .i64 0]) ∧ w = w' := by
  have HE : Hid (decide (bits BinOp.xor .u64 (A : Int) 2147483648 < bits BinOp.xor .u64 (B : Int) 2147483648) = decide (IntKind.i32.wrap (A : Int) < IntKind.i32.wrap (B : Int))) := Lib.hid (by rw [xor_n A hA2, xor_n B hB2]; exact dec_lt _ _ _)
  go_enter Try.func12, Try.ntmps12
  go_wp2_with fail
  go_ret2
  refine ⟨?_, rfl⟩
  show _ = Ending.returned (.tuple #[.bool (decide (IntKind.i32.wrap (A : Int) < IntKind.i32.wrap (B : Int))), .int .i64 0])
  rw [← HE.out]
  rfl

theorem ris_n_26 (a b A B : Nat) (w : World) (ha : a < 18446744073709551616) (hb : b < 18446744073709551616) (hA : bits BinOp.and .u64 (a : Int) 4294967295 = (A : Int)) (hA2 : A < 4294967296) (hB : bits BinOp.and .u64 (b : Int) 4294967295 = (B : Int)) (hB2 : B < 4294967296) :
    Calls Try.prog 12 #[.int .u8 26, .bool true, .int .u64 a, .int .u64 b] w fun e w' => e = .returned (.tuple #[.bool (isV .u32 .i32 26 A B), .int .i64 0]) ∧ w = w' := by
  have HE : Hid (decide (bits BinOp.xor .u64 (A : Int) 2147483648 ≤ bits BinOp.xor .u64 (B : Int) 2147483648) = decide (IntKind.i32.wrap (A : Int) ≤ IntKind.i32.wrap (B : Int))) := Lib.hid (by rw [xor_n A hA2, xor_n B hB2]; exact dec_le _ _ _)
  go_enter Try.func12, Try.ntmps12
  go_wp2_with fail
  go_ret2
  refine ⟨?_, rfl⟩
  show _ = Ending.returned (.tuple #[.bool (decide (IntKind.i32.wrap (A : Int) ≤ IntKind.i32.wrap (B : Int))), .int .i64 0])
  rw [← HE.out]
  rfl

theorem ris_n_27 (a b A B : Nat) (w : World) (ha : a < 18446744073709551616) (hb : b < 18446744073709551616) (hA : bits BinOp.and .u64 (a : Int) 4294967295 = (A : Int)) (hA2 : A < 4294967296) (hB : bits BinOp.and .u64 (b : Int) 4294967295 = (B : Int)) (hB2 : B < 4294967296) :
    Calls Try.prog 12 #[.int .u8 27, .bool true, .int .u64 a, .int .u64 b] w fun e w' => e = .returned (.tuple #[.bool (isV .u32 .i32 27 A B), .int .i64 0]) ∧ w = w' := by
  have HE : Hid (((gather (fun j => eachBit 6 (A.testBit j) (B.testBit j)) 64 : Nat) : Int) = bits BinOp.and .u32 A B) := Lib.hid (by rw [each_and A B (by omega) (by omega), u32_and_nat A B (by omega) (by omega)])
  go_enter Try.func12, Try.ntmps12
  go_wp2_with fail
  refine (each_any 6 A B _ (by omega) (by omega) (by omega)).mono ?_
  rintro e w1 ⟨rfl, rfl⟩
  go_wp2_with fail
  go_ret2
  refine ⟨?_, rfl⟩
  show _ = Ending.returned (.tuple #[.bool (bits BinOp.and .u32 A B != 0), .int .i64 0])
  rw [← HE.out]
  rfl

theorem ris_n_no (op : Int) (a b A B : Nat) (w : World) (ha : a < 18446744073709551616) (hb : b < 18446744073709551616) (hA : bits BinOp.and .u64 (a : Int) 4294967295 = (A : Int)) (hA2 : A < 4294967296) (hB : bits BinOp.and .u64 (b : Int) 4294967295 = (B : Int)) (hB2 : B < 4294967296) (hlo : op < 17 ∨ 27 < op) (h17 : (op == 17) = false) (h18 : (op == 18) = false) (h19 : (op == 19) = false) (h20 : (op == 20) = false) (h21 : (op == 21) = false) (h22 : (op == 22) = false) (h23 : (op == 23) = false) (h24 : (op == 24) = false) (h25 : (op == 25) = false) (h26 : (op == 26) = false) (h27 : (op == 27) = false) :
    Calls Try.prog 12 #[.int .u8 op, .bool true, .int .u64 a, .int .u64 b] w fun e w' => e = .returned (.tuple #[.bool false, .int .i64 2]) ∧ w = w' := by
  rcases hlo with hlo | hlo
  · have hd : decide (23 ≤ op) = false := decide_eq_false (by omega)
    go_enter Try.func12, Try.ntmps12
    go_wp2_with fail
    go_ret2
    exact ⟨rfl, rfl⟩
  · have hd : decide (23 ≤ op) = true := decide_eq_true (by omega)
    have hd2 : decide (op ≤ 26) = false := decide_eq_false (by omega)
    go_enter Try.func12, Try.ntmps12
    go_wp2_with fail
    go_ret2
    exact ⟨rfl, rfl⟩

end Go.Proofs.Ytlfgddljmcgggaa
