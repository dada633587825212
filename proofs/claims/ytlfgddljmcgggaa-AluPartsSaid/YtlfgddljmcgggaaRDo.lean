/- The reference's Do (barbicanref01), over this seat's program. -/
import Derived.Test.YtlfgddljmcgggaaPlain
namespace Go.Proofs.Ytlfgddljmcgggaa
open Go.RowKit
set_option linter.unusedVariables false

theorem quiet_left {P : Program} {f : FuncId} {args : Array Value} {w : World} {n : Nat} {v : Value}
    (h : Calls P f args (w.drewN n) fun e w' => e = .returned v ∧ w.drewN n = w') : Calls P f args (w.drewN n) fun e w'' => e = .returned v ∧ ∃ m, w'' = w.drewN m :=
  h.mono fun _ _ h => ⟨h.1, n, h.2.symm⟩

theorem rdo_w_1 (a b : Nat) (w : World) (ha : a < 18446744073709551616) (hb : b < 18446744073709551616) :
    Calls Try.prog 10 #[.int .u8 1, .bool false, .int .u64 a, .int .u64 b] w fun e w' => e = .returned (.tuple #[.int .u64 (opV .u64 .i64 64 1 a b), .int .i64 0]) ∧ w = w' := by
  have HE : Hid (IntKind.u64.wrap ((a : Int) + b) = opV .u64 .i64 64 1 a b) := Lib.hid (rfl)
  go_enter Try.func10, Try.ntmps10
  go_wp2_with fail
  go_ret2
  refine ⟨?_, rfl⟩
  rw [← HE.out]
  rfl

theorem rdo_w_2 (a b : Nat) (w : World) (ha : a < 18446744073709551616) (hb : b < 18446744073709551616) :
    Calls Try.prog 10 #[.int .u8 2, .bool false, .int .u64 a, .int .u64 b] w fun e w' => e = .returned (.tuple #[.int .u64 (opV .u64 .i64 64 2 a b), .int .i64 0]) ∧ w = w' := by
  have HE : Hid (IntKind.u64.wrap ((a : Int) - b) = opV .u64 .i64 64 2 a b) := Lib.hid (rfl)
  go_enter Try.func10, Try.ntmps10
  go_wp2_with fail
  go_ret2
  refine ⟨?_, rfl⟩
  rw [← HE.out]
  rfl

theorem rdo_w_3 (a b : Nat) (w : World) (ha : a < 18446744073709551616) (hb : b < 18446744073709551616) :
    Calls Try.prog 10 #[.int .u8 3, .bool false, .int .u64 a, .int .u64 b] w fun e w' => e = .returned (.tuple #[.int .u64 (opV .u64 .i64 64 3 a b), .int .i64 0]) ∧ w = w' := by
  have HE : Hid (IntKind.u64.wrap ((a : Int) * b) = opV .u64 .i64 64 3 a b) := Lib.hid (rfl)
  go_enter Try.func10, Try.ntmps10
  go_wp2_with fail
  go_ret2
  refine ⟨?_, rfl⟩
  rw [← HE.out]
  rfl

theorem rdo_w_4 (a b : Nat) (w : World) (ha : a < 18446744073709551616) (hb : b < 18446744073709551616) (hbz : 1 ≤ b) :
    Calls Try.prog 10 #[.int .u8 4, .bool false, .int .u64 a, .int .u64 b] w fun e w' => e = .returned (.tuple #[.int .u64 (opV .u64 .i64 64 4 a b), .int .i64 0]) ∧ w = w' := by
  have HE : Hid (IntKind.u64.wrap ((a : Int) / b) = opV .u64 .i64 64 4 a b) := Lib.hid (div_w a b ha)
  have hb1 : 1 ≤ (b : Int) := by omega
  have hz : ((b : Int) == 0) = false := beq_eq_false_iff_ne.2 (by omega)
  go_enter Try.func10, Try.ntmps10
  go_wp2_with fail
  go_ret2
  refine ⟨?_, rfl⟩
  rw [← HE.out]
  rfl

theorem rdo_w_5 (a b : Nat) (w : World) (ha : a < 18446744073709551616) (hb : b < 18446744073709551616) (hbz : 1 ≤ b) :
    Calls Try.prog 10 #[.int .u8 5, .bool false, .int .u64 a, .int .u64 b] w fun e w' => e = .returned (.tuple #[.int .u64 (opV .u64 .i64 64 5 a b), .int .i64 0]) ∧ w = w' := by
  have HE : Hid (IntKind.u64.wrap ((a : Int) - IntKind.u64.wrap (IntKind.u64.wrap ((a : Int) / b) * b)) = opV .u64 .i64 64 5 a b) := Lib.hid (mod_w a b ha)
  have hb1 : 1 ≤ (b : Int) := by omega
  have hz : ((b : Int) == 0) = false := beq_eq_false_iff_ne.2 (by omega)
  go_enter Try.func10, Try.ntmps10
  go_wp2_with fail
  go_ret2
  refine ⟨?_, rfl⟩
  rw [← HE.out]
  rfl

theorem rdo_w_6 (a b : Nat) (w : World) (ha : a < 18446744073709551616) (hb : b < 18446744073709551616) :
    Calls Try.prog 10 #[.int .u8 6, .bool false, .int .u64 a, .int .u64 b] w fun e w' => e = .returned (.tuple #[.int .u64 (opV .u64 .i64 64 6 a b), .int .i64 0]) ∧ w = w' := by
  have HE : Hid (((gather (fun j => eachBit 6 (a.testBit j) (b.testBit j)) 64 : Nat) : Int) = opV .u64 .i64 64 6 a b) := Lib.hid ((each_and a b ha hb).trans (u64_and_nat a b ha hb).symm)
  go_enter Try.func10, Try.ntmps10
  go_wp2_with fail
  refine (each_any 6 a b _ (by omega) (by omega) (by omega)).mono ?_
  rintro e w1 ⟨rfl, rfl⟩
  go_wp2_with fail
  go_ret2
  refine ⟨?_, rfl⟩
  rw [← HE.out]
  rfl

theorem rdo_w_7 (a b : Nat) (w : World) (ha : a < 18446744073709551616) (hb : b < 18446744073709551616) :
    Calls Try.prog 10 #[.int .u8 7, .bool false, .int .u64 a, .int .u64 b] w fun e w' => e = .returned (.tuple #[.int .u64 (opV .u64 .i64 64 7 a b), .int .i64 0]) ∧ w = w' := by
  have HE : Hid (((gather (fun j => eachBit 7 (a.testBit j) (b.testBit j)) 64 : Nat) : Int) = opV .u64 .i64 64 7 a b) := Lib.hid ((each_or a b ha hb).trans (u64_or_nat a b ha hb).symm)
  go_enter Try.func10, Try.ntmps10
  go_wp2_with fail
  refine (each_any 7 a b _ (by omega) (by omega) (by omega)).mono ?_
  rintro e w1 ⟨rfl, rfl⟩
  go_wp2_with fail
  go_ret2
  refine ⟨?_, rfl⟩
  rw [← HE.out]
  rfl

theorem rdo_w_8 (a b : Nat) (w : World) (ha : a < 18446744073709551616) (hb : b < 18446744073709551616) :
    Calls Try.prog 10 #[.int .u8 8, .bool false, .int .u64 a, .int .u64 b] w fun e w' => e = .returned (.tuple #[.int .u64 (opV .u64 .i64 64 8 a b), .int .i64 0]) ∧ w = w' := by
  have HE : Hid (((gather (fun j => eachBit 8 (a.testBit j) (b.testBit j)) 64 : Nat) : Int) = opV .u64 .i64 64 8 a b) := Lib.hid ((each_xor a b ha hb).trans (u64_xor_nat a b ha hb).symm)
  go_enter Try.func10, Try.ntmps10
  go_wp2_with fail
  refine (each_any 8 a b _ (by omega) (by omega) (by omega)).mono ?_
  rintro e w1 ⟨rfl, rfl⟩
  go_wp2_with fail
  go_ret2
  refine ⟨?_, rfl⟩
  rw [← HE.out]
  rfl

theorem rdo_w_9 (a b : Nat) (w : World) (ha : a < 18446744073709551616) (hb : b < 18446744073709551616) :
    Calls Try.prog 10 #[.int .u8 9, .bool false, .int .u64 a, .int .u64 b] w fun e w' => e = .returned (.tuple #[.int .u64 (opV .u64 .i64 64 9 a b), .int .i64 0]) ∧ w = w' := by
  have HE : Hid (((movedN a ((b : Int) % 64) 64 false 64 : Nat) : Int) = opV .u64 .i64 64 9 a b) := Lib.hid (up_w a b)
  go_enter Try.func10, Try.ntmps10
  go_wp2_with fail
  refine (moved_any a _ 64 false _ (by omega) (by omega) (by omega) (by omega)).mono ?_
  rintro e w1 ⟨rfl, rfl⟩
  go_wp2_with fail
  go_ret2
  refine ⟨?_, rfl⟩
  rw [← HE.out]
  rfl

theorem rdo_w_10 (a b : Nat) (w : World) (ha : a < 18446744073709551616) (hb : b < 18446744073709551616) :
    Calls Try.prog 10 #[.int .u8 10, .bool false, .int .u64 a, .int .u64 b] w fun e w' => e = .returned (.tuple #[.int .u64 (opV .u64 .i64 64 10 a b), .int .i64 0]) ∧ w = w' := by
  have HE : Hid (((movedN a (-((b : Int) % 64)) 64 false 64 : Nat) : Int) = opV .u64 .i64 64 10 a b) := Lib.hid (down_w a b ha)
  go_enter Try.func10, Try.ntmps10
  go_wp2_with fail
  refine (moved_any a _ 64 false _ (by omega) (by omega) (by omega) (by omega)).mono ?_
  rintro e w1 ⟨rfl, rfl⟩
  go_wp2_with fail
  go_ret2
  refine ⟨?_, rfl⟩
  rw [← HE.out]
  rfl

theorem rdo_w_11 (a b : Nat) (w : World) (ha : a < 18446744073709551616) (hb : b < 18446744073709551616) :
    Calls Try.prog 10 #[.int .u8 11, .bool false, .int .u64 a, .int .u64 b] w fun e w' => e = .returned (.tuple #[.int .u64 (opV .u64 .i64 64 11 a b), .int .i64 0]) ∧ ∃ n, w.drewN n = w' := by
  have HE : Hid (((movedN a (-((b : Int) % 64)) 64 (a.testBit 63) 64 : Nat) : Int) = opV .u64 .i64 64 11 a b) := Lib.hid (sar_w a b ha)
  go_enter Try.func10, Try.ntmps10
  go_wp2_with fail
  go_quiet ((first | (go_at_call 19; exact quiet_left (bit_any a 63 _ (by omega) (by omega))) | (go_at_call 18; exact quiet_left (moved_any a _ 64 _ _ (by omega) (by omega) (by omega) (by omega)))))
  go_wp2_with fail
  go_ret2
  refine ⟨?_, ⟨_, rfl⟩⟩
  rw [← HE.out]
  rfl

theorem rdo_w_12 (a b : Nat) (w : World) (ha : a < 18446744073709551616) (hb : b < 18446744073709551616) :
    Calls Try.prog 10 #[.int .u8 12, .bool false, .int .u64 a, .int .u64 b] w fun e w' => e = .returned (.tuple #[.int .u64 (opV .u64 .i64 64 12 a b), .int .i64 0]) ∧ w = w' := by
  have HE : Hid ((b : Int) = opV .u64 .i64 64 12 a b) := Lib.hid (rfl)
  go_enter Try.func10, Try.ntmps10
  go_wp2_with fail
  go_ret2
  refine ⟨?_, rfl⟩
  rw [← HE.out]
  rfl

theorem rdo_w_13 (a b : Nat) (w : World) (ha : a < 18446744073709551616) (hb : b < 18446744073709551616) :
    Calls Try.prog 10 #[.int .u8 13, .bool false, .int .u64 a, .int .u64 b] w fun e w' => e = .returned (.tuple #[.int .u64 (opV .u64 .i64 64 13 a b), .int .i64 0]) ∧ w = w' := by
  have HE : Hid (IntKind.u64.wrap (-(a : Int)) = opV .u64 .i64 64 13 a b) := Lib.hid (rfl)
  go_enter Try.func10, Try.ntmps10
  go_wp2_with fail
  go_ret2
  refine ⟨?_, rfl⟩
  rw [← HE.out]
  rfl

theorem rdo_w_z4 (a b : Nat) (w : World) (ha : a < 18446744073709551616) (hb : b < 18446744073709551616) (hbz : b = 0) :
    Calls Try.prog 10 #[.int .u8 4, .bool false, .int .u64 a, .int .u64 b] w fun e w' => e = .returned (.tuple #[.int .u64 0, .int .i64 113]) ∧ w = w' := by
  subst hbz
  go_enter Try.func10, Try.ntmps10
  go_wp2_with fail
  go_ret2
  exact ⟨rfl, rfl⟩

theorem rdo_w_z5 (a b : Nat) (w : World) (ha : a < 18446744073709551616) (hb : b < 18446744073709551616) (hbz : b = 0) :
    Calls Try.prog 10 #[.int .u8 5, .bool false, .int .u64 a, .int .u64 b] w fun e w' => e = .returned (.tuple #[.int .u64 0, .int .i64 113]) ∧ w = w' := by
  subst hbz
  go_enter Try.func10, Try.ntmps10
  go_wp2_with fail
  go_ret2
  exact ⟨rfl, rfl⟩

theorem rdo_w_no (op : Int) (a b : Nat) (w : World) (ha : a < 18446744073709551616) (hb : b < 18446744073709551616) (h1 : (op == 1) = false) (h2 : (op == 2) = false) (h3 : (op == 3) = false) (h4 : (op == 4) = false) (h5 : (op == 5) = false) (h6 : (op == 6) = false) (h7 : (op == 7) = false) (h8 : (op == 8) = false) (h9 : (op == 9) = false) (h10 : (op == 10) = false) (h11 : (op == 11) = false) (h12 : (op == 12) = false) (h13 : (op == 13) = false) :
    Calls Try.prog 10 #[.int .u8 op, .bool false, .int .u64 a, .int .u64 b] w fun e w' => e = .returned (.tuple #[.int .u64 0, .int .i64 2]) ∧ w = w' := by
  go_enter Try.func10, Try.ntmps10
  go_wp2_with fail
  go_ret2
  exact ⟨rfl, rfl⟩

theorem rdo_n_1 (a b A B : Nat) (w : World) (ha : a < 18446744073709551616) (hb : b < 18446744073709551616) (hA : bits BinOp.and .u64 (a : Int) 4294967295 = (A : Int)) (hA2 : A < 4294967296) (hB : bits BinOp.and .u64 (b : Int) 4294967295 = (B : Int)) (hB2 : B < 4294967296) :
    Calls Try.prog 10 #[.int .u8 1, .bool true, .int .u64 a, .int .u64 b] w fun e w' => e = .returned (.tuple #[.int .u64 (opV .u32 .i32 32 1 A B), .int .i64 0]) ∧ w = w' := by
  have HE : Hid (bits BinOp.and .u64 (((A : Int) + B)) 4294967295 = opV .u32 .i32 32 1 A B) := Lib.hid (by rw [low_eq _ (by omega) (by omega)]; exact (w32 _).symm)
  go_enter Try.func10, Try.ntmps10
  go_wp2_with fail
  go_ret2
  refine ⟨?_, rfl⟩
  rw [← HE.out]
  rfl

theorem rdo_n_2 (a b A B : Nat) (w : World) (ha : a < 18446744073709551616) (hb : b < 18446744073709551616) (hA : bits BinOp.and .u64 (a : Int) 4294967295 = (A : Int)) (hA2 : A < 4294967296) (hB : bits BinOp.and .u64 (b : Int) 4294967295 = (B : Int)) (hB2 : B < 4294967296) :
    Calls Try.prog 10 #[.int .u8 2, .bool true, .int .u64 a, .int .u64 b] w fun e w' => e = .returned (.tuple #[.int .u64 (opV .u32 .i32 32 2 A B), .int .i64 0]) ∧ w = w' := by
  have HE : Hid (bits BinOp.and .u64 (IntKind.u64.wrap ((A : Int) - B)) 4294967295 = opV .u32 .i32 32 2 A B) := Lib.hid (low_wrap _)
  go_enter Try.func10, Try.ntmps10
  go_wp2_with fail
  go_ret2
  refine ⟨?_, rfl⟩
  rw [← HE.out]
  rfl

theorem rdo_n_3 (a b A B : Nat) (w : World) (ha : a < 18446744073709551616) (hb : b < 18446744073709551616) (hA : bits BinOp.and .u64 (a : Int) 4294967295 = (A : Int)) (hA2 : A < 4294967296) (hB : bits BinOp.and .u64 (b : Int) 4294967295 = (B : Int)) (hB2 : B < 4294967296) :
    Calls Try.prog 10 #[.int .u8 3, .bool true, .int .u64 a, .int .u64 b] w fun e w' => e = .returned (.tuple #[.int .u64 (opV .u32 .i32 32 3 A B), .int .i64 0]) ∧ w = w' := by
  have HE : Hid (bits BinOp.and .u64 (IntKind.u64.wrap ((A : Int) * B)) 4294967295 = opV .u32 .i32 32 3 A B) := Lib.hid (low_wrap _)
  go_enter Try.func10, Try.ntmps10
  go_wp2_with fail
  go_ret2
  refine ⟨?_, rfl⟩
  rw [← HE.out]
  rfl

theorem rdo_n_4 (a b A B : Nat) (w : World) (ha : a < 18446744073709551616) (hb : b < 18446744073709551616) (hA : bits BinOp.and .u64 (a : Int) 4294967295 = (A : Int)) (hA2 : A < 4294967296) (hB : bits BinOp.and .u64 (b : Int) 4294967295 = (B : Int)) (hB2 : B < 4294967296) (hbz : 1 ≤ B) :
    Calls Try.prog 10 #[.int .u8 4, .bool true, .int .u64 a, .int .u64 b] w fun e w' => e = .returned (.tuple #[.int .u64 (opV .u32 .i32 32 4 A B), .int .i64 0]) ∧ w = w' := by
  have HE : Hid (bits BinOp.and .u64 (IntKind.u64.wrap ((A : Int) / B)) 4294967295 = opV .u32 .i32 32 4 A B) := Lib.hid (by rw [div_w A B (by omega), low_eq _ (div_range _ _ 4294967295 (by omega) (by omega) (by omega)).1 (by have := (div_range (A : Int) B 4294967295 (by omega) (by omega) (by omega)).2; omega), Int.emod_eq_of_lt (div_range _ _ 4294967295 (by omega) (by omega) (by omega)).1 (by have := (div_range (A : Int) B 4294967295 (by omega) (by omega) (by omega)).2; omega)]; rfl)
  have hb1 : 1 ≤ (B : Int) := by omega
  have hz : ((B : Int) == 0) = false := beq_eq_false_iff_ne.2 (by omega)
  go_enter Try.func10, Try.ntmps10
  go_wp2_with fail
  go_ret2
  refine ⟨?_, rfl⟩
  rw [← HE.out]
  rfl

theorem rdo_n_5 (a b A B : Nat) (w : World) (ha : a < 18446744073709551616) (hb : b < 18446744073709551616) (hA : bits BinOp.and .u64 (a : Int) 4294967295 = (A : Int)) (hA2 : A < 4294967296) (hB : bits BinOp.and .u64 (b : Int) 4294967295 = (B : Int)) (hB2 : B < 4294967296) (hbz : 1 ≤ B) :
    Calls Try.prog 10 #[.int .u8 5, .bool true, .int .u64 a, .int .u64 b] w fun e w' => e = .returned (.tuple #[.int .u64 (opV .u32 .i32 32 5 A B), .int .i64 0]) ∧ w = w' := by
  have HE : Hid (bits BinOp.and .u64 (IntKind.u64.wrap ((A : Int) - IntKind.u64.wrap (IntKind.u64.wrap ((A : Int) / B) * B))) 4294967295 = opV .u32 .i32 32 5 A B) := Lib.hid (by rw [mod_w A B (by omega), low_eq _ (mod_range _ _ 4294967295 (by omega) (by omega) (by omega)).1 (by have := (mod_range (A : Int) B 4294967295 (by omega) (by omega) (by omega)).2; omega), Int.emod_eq_of_lt (mod_range _ _ 4294967295 (by omega) (by omega) (by omega)).1 (by have := (mod_range (A : Int) B 4294967295 (by omega) (by omega) (by omega)).2; omega)]; rfl)
  have hb1 : 1 ≤ (B : Int) := by omega
  have hz : ((B : Int) == 0) = false := beq_eq_false_iff_ne.2 (by omega)
  go_enter Try.func10, Try.ntmps10
  go_wp2_with fail
  go_ret2
  refine ⟨?_, rfl⟩
  rw [← HE.out]
  rfl

theorem rdo_n_6 (a b A B : Nat) (w : World) (ha : a < 18446744073709551616) (hb : b < 18446744073709551616) (hA : bits BinOp.and .u64 (a : Int) 4294967295 = (A : Int)) (hA2 : A < 4294967296) (hB : bits BinOp.and .u64 (b : Int) 4294967295 = (B : Int)) (hB2 : B < 4294967296) :
    Calls Try.prog 10 #[.int .u8 6, .bool true, .int .u64 a, .int .u64 b] w fun e w' => e = .returned (.tuple #[.int .u64 (opV .u32 .i32 32 6 A B), .int .i64 0]) ∧ w = w' := by
  have HE : Hid (bits BinOp.and .u64 (((gather (fun j => eachBit 6 (A.testBit j) (B.testBit j)) 64 : Nat) : Int)) 4294967295 = opV .u32 .i32 32 6 A B) := Lib.hid (by rw [each_and A B (by omega) (by omega), low_nat _ (Nat.and_lt_two_pow (n := 32) _ hB2)]; exact (u32_and_nat A B hA2 hB2).symm)
  go_enter Try.func10, Try.ntmps10
  go_wp2_with fail
  refine (each_any 6 A B _ (by omega) (by omega) (by omega)).mono ?_
  rintro e w1 ⟨rfl, rfl⟩
  go_wp2_with fail
  go_ret2
  refine ⟨?_, rfl⟩
  rw [← HE.out]
  rfl

theorem rdo_n_7 (a b A B : Nat) (w : World) (ha : a < 18446744073709551616) (hb : b < 18446744073709551616) (hA : bits BinOp.and .u64 (a : Int) 4294967295 = (A : Int)) (hA2 : A < 4294967296) (hB : bits BinOp.and .u64 (b : Int) 4294967295 = (B : Int)) (hB2 : B < 4294967296) :
    Calls Try.prog 10 #[.int .u8 7, .bool true, .int .u64 a, .int .u64 b] w fun e w' => e = .returned (.tuple #[.int .u64 (opV .u32 .i32 32 7 A B), .int .i64 0]) ∧ w = w' := by
  have HE : Hid (bits BinOp.and .u64 (((gather (fun j => eachBit 7 (A.testBit j) (B.testBit j)) 64 : Nat) : Int)) 4294967295 = opV .u32 .i32 32 7 A B) := Lib.hid (by rw [each_or A B (by omega) (by omega), low_nat _ (Nat.or_lt_two_pow (n := 32) hA2 hB2)]; exact (u32_or_nat A B hA2 hB2).symm)
  go_enter Try.func10, Try.ntmps10
  go_wp2_with fail
  refine (each_any 7 A B _ (by omega) (by omega) (by omega)).mono ?_
  rintro e w1 ⟨rfl, rfl⟩
  go_wp2_with fail
  go_ret2
  refine ⟨?_, rfl⟩
  rw [← HE.out]
  rfl

theorem rdo_n_8 (a b A B : Nat) (w : World) (ha : a < 18446744073709551616) (hb : b < 18446744073709551616) (hA : bits BinOp.and .u64 (a : Int) 4294967295 = (A : Int)) (hA2 : A < 4294967296) (hB : bits BinOp.and .u64 (b : Int) 4294967295 = (B : Int)) (hB2 : B < 4294967296) :
    Calls Try.prog 10 #[.int .u8 8, .bool true, .int .u64 a, .int .u64 b] w fun e w' => e = .returned (.tuple #[.int .u64 (opV .u32 .i32 32 8 A B), .int .i64 0]) ∧ w = w' := by
  have HE : Hid (bits BinOp.and .u64 (((gather (fun j => eachBit 8 (A.testBit j) (B.testBit j)) 64 : Nat) : Int)) 4294967295 = opV .u32 .i32 32 8 A B) := Lib.hid (by rw [each_xor A B (by omega) (by omega), low_nat _ (Nat.xor_lt_two_pow (n := 32) hA2 hB2)]; exact (u32_xor_nat A B hA2 hB2).symm)
  go_enter Try.func10, Try.ntmps10
  go_wp2_with fail
  refine (each_any 8 A B _ (by omega) (by omega) (by omega)).mono ?_
  rintro e w1 ⟨rfl, rfl⟩
  go_wp2_with fail
  go_ret2
  refine ⟨?_, rfl⟩
  rw [← HE.out]
  rfl

theorem rdo_n_9 (a b A B : Nat) (w : World) (ha : a < 18446744073709551616) (hb : b < 18446744073709551616) (hA : bits BinOp.and .u64 (a : Int) 4294967295 = (A : Int)) (hA2 : A < 4294967296) (hB : bits BinOp.and .u64 (b : Int) 4294967295 = (B : Int)) (hB2 : B < 4294967296) :
    Calls Try.prog 10 #[.int .u8 9, .bool true, .int .u64 a, .int .u64 b] w fun e w' => e = .returned (.tuple #[.int .u64 (opV .u32 .i32 32 9 A B), .int .i64 0]) ∧ w = w' := by
  have HE : Hid (bits BinOp.and .u64 (((movedN A ((B : Int) % 32) 32 false 32 : Nat) : Int)) 4294967295 = opV .u32 .i32 32 9 A B) := Lib.hid (by rw [low_nat _ (moved_lt A _ 32 _)]; exact up_n A B)
  go_enter Try.func10, Try.ntmps10
  go_wp2_with fail
  refine (moved_any A _ 32 false _ (by omega) (by omega) (by omega) (by omega)).mono ?_
  rintro e w1 ⟨rfl, rfl⟩
  go_wp2_with fail
  go_ret2
  refine ⟨?_, rfl⟩
  rw [← HE.out]
  rfl

theorem rdo_n_10 (a b A B : Nat) (w : World) (ha : a < 18446744073709551616) (hb : b < 18446744073709551616) (hA : bits BinOp.and .u64 (a : Int) 4294967295 = (A : Int)) (hA2 : A < 4294967296) (hB : bits BinOp.and .u64 (b : Int) 4294967295 = (B : Int)) (hB2 : B < 4294967296) :
    Calls Try.prog 10 #[.int .u8 10, .bool true, .int .u64 a, .int .u64 b] w fun e w' => e = .returned (.tuple #[.int .u64 (opV .u32 .i32 32 10 A B), .int .i64 0]) ∧ w = w' := by
  have HE : Hid (bits BinOp.and .u64 (((movedN A (-((B : Int) % 32)) 32 false 32 : Nat) : Int)) 4294967295 = opV .u32 .i32 32 10 A B) := Lib.hid (by rw [low_nat _ (moved_lt A _ 32 _)]; exact down_n A B hA2)
  go_enter Try.func10, Try.ntmps10
  go_wp2_with fail
  refine (moved_any A _ 32 false _ (by omega) (by omega) (by omega) (by omega)).mono ?_
  rintro e w1 ⟨rfl, rfl⟩
  go_wp2_with fail
  go_ret2
  refine ⟨?_, rfl⟩
  rw [← HE.out]
  rfl

theorem rdo_n_11 (a b A B : Nat) (w : World) (ha : a < 18446744073709551616) (hb : b < 18446744073709551616) (hA : bits BinOp.and .u64 (a : Int) 4294967295 = (A : Int)) (hA2 : A < 4294967296) (hB : bits BinOp.and .u64 (b : Int) 4294967295 = (B : Int)) (hB2 : B < 4294967296) :
    Calls Try.prog 10 #[.int .u8 11, .bool true, .int .u64 a, .int .u64 b] w fun e w' => e = .returned (.tuple #[.int .u64 (opV .u32 .i32 32 11 A B), .int .i64 0]) ∧ ∃ n, w.drewN n = w' := by
  have HE : Hid (bits BinOp.and .u64 (((movedN A (-((B : Int) % 32)) 32 (A.testBit 31) 32 : Nat) : Int)) 4294967295 = opV .u32 .i32 32 11 A B) := Lib.hid (by rw [low_nat _ (moved_lt A _ 32 _)]; exact sar_n A B hA2)
  go_enter Try.func10, Try.ntmps10
  go_wp2_with fail
  go_quiet ((first | (go_at_call 19; exact quiet_left (bit_any A 31 _ (by omega) (by omega))) | (go_at_call 18; exact quiet_left (moved_any A _ 32 _ _ (by omega) (by omega) (by omega) (by omega)))))
  go_wp2_with fail
  go_ret2
  refine ⟨?_, ⟨_, rfl⟩⟩
  rw [← HE.out]
  rfl

theorem rdo_n_12 (a b A B : Nat) (w : World) (ha : a < 18446744073709551616) (hb : b < 18446744073709551616) (hA : bits BinOp.and .u64 (a : Int) 4294967295 = (A : Int)) (hA2 : A < 4294967296) (hB : bits BinOp.and .u64 (b : Int) 4294967295 = (B : Int)) (hB2 : B < 4294967296) :
    Calls Try.prog 10 #[.int .u8 12, .bool true, .int .u64 a, .int .u64 b] w fun e w' => e = .returned (.tuple #[.int .u64 (opV .u32 .i32 32 12 A B), .int .i64 0]) ∧ w = w' := by
  have HE : Hid (bits BinOp.and .u64 ((B : Int)) 4294967295 = opV .u32 .i32 32 12 A B) := Lib.hid (low_nat B hB2)
  go_enter Try.func10, Try.ntmps10
  go_wp2_with fail
  go_ret2
  refine ⟨?_, rfl⟩
  rw [← HE.out]
  rfl

theorem rdo_n_13 (a b A B : Nat) (w : World) (ha : a < 18446744073709551616) (hb : b < 18446744073709551616) (hA : bits BinOp.and .u64 (a : Int) 4294967295 = (A : Int)) (hA2 : A < 4294967296) (hB : bits BinOp.and .u64 (b : Int) 4294967295 = (B : Int)) (hB2 : B < 4294967296) :
    Calls Try.prog 10 #[.int .u8 13, .bool true, .int .u64 a, .int .u64 b] w fun e w' => e = .returned (.tuple #[.int .u64 (opV .u32 .i32 32 13 A B), .int .i64 0]) ∧ w = w' := by
  have HE : Hid (bits BinOp.and .u64 (IntKind.u64.wrap (-(A : Int))) 4294967295 = opV .u32 .i32 32 13 A B) := Lib.hid (low_wrap _)
  go_enter Try.func10, Try.ntmps10
  go_wp2_with fail
  go_ret2
  refine ⟨?_, rfl⟩
  rw [← HE.out]
  rfl

theorem rdo_n_z4 (a b A B : Nat) (w : World) (ha : a < 18446744073709551616) (hb : b < 18446744073709551616) (hA : bits BinOp.and .u64 (a : Int) 4294967295 = (A : Int)) (hA2 : A < 4294967296) (hB : bits BinOp.and .u64 (b : Int) 4294967295 = (B : Int)) (hB2 : B < 4294967296) (hbz : B = 0) :
    Calls Try.prog 10 #[.int .u8 4, .bool true, .int .u64 a, .int .u64 b] w fun e w' => e = .returned (.tuple #[.int .u64 0, .int .i64 113]) ∧ w = w' := by
  subst hbz
  go_enter Try.func10, Try.ntmps10
  go_wp2_with fail
  go_ret2
  exact ⟨rfl, rfl⟩

theorem rdo_n_z5 (a b A B : Nat) (w : World) (ha : a < 18446744073709551616) (hb : b < 18446744073709551616) (hA : bits BinOp.and .u64 (a : Int) 4294967295 = (A : Int)) (hA2 : A < 4294967296) (hB : bits BinOp.and .u64 (b : Int) 4294967295 = (B : Int)) (hB2 : B < 4294967296) (hbz : B = 0) :
    Calls Try.prog 10 #[.int .u8 5, .bool true, .int .u64 a, .int .u64 b] w fun e w' => e = .returned (.tuple #[.int .u64 0, .int .i64 113]) ∧ w = w' := by
  subst hbz
  go_enter Try.func10, Try.ntmps10
  go_wp2_with fail
  go_ret2
  exact ⟨rfl, rfl⟩

theorem rdo_n_no (op : Int) (a b A B : Nat) (w : World) (ha : a < 18446744073709551616) (hb : b < 18446744073709551616) (hA : bits BinOp.and .u64 (a : Int) 4294967295 = (A : Int)) (hA2 : A < 4294967296) (hB : bits BinOp.and .u64 (b : Int) 4294967295 = (B : Int)) (hB2 : B < 4294967296) (h1 : (op == 1) = false) (h2 : (op == 2) = false) (h3 : (op == 3) = false) (h4 : (op == 4) = false) (h5 : (op == 5) = false) (h6 : (op == 6) = false) (h7 : (op == 7) = false) (h8 : (op == 8) = false) (h9 : (op == 9) = false) (h10 : (op == 10) = false) (h11 : (op == 11) = false) (h12 : (op == 12) = false) (h13 : (op == 13) = false) :
    Calls Try.prog 10 #[.int .u8 op, .bool true, .int .u64 a, .int .u64 b] w fun e w' => e = .returned (.tuple #[.int .u64 0, .int .i64 2]) ∧ w = w' := by
  go_enter Try.func10, Try.ntmps10
  go_wp2_with fail
  go_ret2
  exact ⟨rfl, rfl⟩

end Go.Proofs.Ytlfgddljmcgggaa
