/- The reference's Do (barbicanref01). The reference's Is (barbicanref01). The reference's Do and Is at whatever operator; awake; over this seat's program. -/
import Derived.Test.YtbfegghkipoppaaZ5
namespace Go.Proofs.Ytbfegghkipoppaa
set_option maxRecDepth 100000
open Go.RowKit
set_option linter.unusedVariables false

theorem quiet_left {P : Program} {f : FuncId} {args : Array Value} {w : World} {n : Nat} {v : Value}
    (h : Calls P f args (w.drewN n) fun e w' => e = .returned v ∧ w.drewN n = w') : Calls P f args (w.drewN n) fun e w'' => e = .returned v ∧ ∃ m, w'' = w.drewN m :=
  h.mono fun _ _ h => ⟨h.1, n, h.2.symm⟩

theorem rdo_w_1 (a b : Nat) (w : World) (ha : a < 18446744073709551616) (hb : b < 18446744073709551616) :
    Calls Try.prog 35 #[.int .u8 1, .bool false, .int .u64 a, .int .u64 b] w fun e w' => e = .returned (.tuple #[.int .u64 (opV .u64 .i64 64 1 a b), .int .i64 0]) ∧ w = w' := by
  have HE : Hid (IntKind.u64.wrap ((a : Int) + b) = opV .u64 .i64 64 1 a b) := Lib.hid (rfl)
  go_enter Try.func35, Try.ntmps35
  go_wp2_with fail
  go_ret2
  refine ⟨?_, rfl⟩
  rw [← HE.out]
  rfl

theorem rdo_w_2 (a b : Nat) (w : World) (ha : a < 18446744073709551616) (hb : b < 18446744073709551616) :
    Calls Try.prog 35 #[.int .u8 2, .bool false, .int .u64 a, .int .u64 b] w fun e w' => e = .returned (.tuple #[.int .u64 (opV .u64 .i64 64 2 a b), .int .i64 0]) ∧ w = w' := by
  have HE : Hid (IntKind.u64.wrap ((a : Int) - b) = opV .u64 .i64 64 2 a b) := Lib.hid (rfl)
  go_enter Try.func35, Try.ntmps35
  go_wp2_with fail
  go_ret2
  refine ⟨?_, rfl⟩
  rw [← HE.out]
  rfl

theorem rdo_w_3 (a b : Nat) (w : World) (ha : a < 18446744073709551616) (hb : b < 18446744073709551616) :
    Calls Try.prog 35 #[.int .u8 3, .bool false, .int .u64 a, .int .u64 b] w fun e w' => e = .returned (.tuple #[.int .u64 (opV .u64 .i64 64 3 a b), .int .i64 0]) ∧ w = w' := by
  have HE : Hid (IntKind.u64.wrap ((a : Int) * b) = opV .u64 .i64 64 3 a b) := Lib.hid (rfl)
  go_enter Try.func35, Try.ntmps35
  go_wp2_with fail
  go_ret2
  refine ⟨?_, rfl⟩
  rw [← HE.out]
  rfl

theorem rdo_w_4 (a b : Nat) (w : World) (ha : a < 18446744073709551616) (hb : b < 18446744073709551616) (hbz : 1 ≤ b) :
    Calls Try.prog 35 #[.int .u8 4, .bool false, .int .u64 a, .int .u64 b] w fun e w' => e = .returned (.tuple #[.int .u64 (opV .u64 .i64 64 4 a b), .int .i64 0]) ∧ w = w' := by
  have HE : Hid (IntKind.u64.wrap ((a : Int) / b) = opV .u64 .i64 64 4 a b) := Lib.hid (div_w a b ha)
  have hb1 : 1 ≤ (b : Int) := by omega
  have hz : ((b : Int) == 0) = false := beq_eq_false_iff_ne.2 (by omega)
  go_enter Try.func35, Try.ntmps35
  go_wp2_with fail
  go_ret2
  refine ⟨?_, rfl⟩
  rw [← HE.out]
  rfl

theorem rdo_w_5 (a b : Nat) (w : World) (ha : a < 18446744073709551616) (hb : b < 18446744073709551616) (hbz : 1 ≤ b) :
    Calls Try.prog 35 #[.int .u8 5, .bool false, .int .u64 a, .int .u64 b] w fun e w' => e = .returned (.tuple #[.int .u64 (opV .u64 .i64 64 5 a b), .int .i64 0]) ∧ w = w' := by
  have HE : Hid (IntKind.u64.wrap ((a : Int) - IntKind.u64.wrap (IntKind.u64.wrap ((a : Int) / b) * b)) = opV .u64 .i64 64 5 a b) := Lib.hid (mod_w a b ha)
  have hb1 : 1 ≤ (b : Int) := by omega
  have hz : ((b : Int) == 0) = false := beq_eq_false_iff_ne.2 (by omega)
  go_enter Try.func35, Try.ntmps35
  go_wp2_with fail
  go_ret2
  refine ⟨?_, rfl⟩
  rw [← HE.out]
  rfl

theorem rdo_w_6 (a b : Nat) (w : World) (ha : a < 18446744073709551616) (hb : b < 18446744073709551616) :
    Calls Try.prog 35 #[.int .u8 6, .bool false, .int .u64 a, .int .u64 b] w fun e w' => e = .returned (.tuple #[.int .u64 (opV .u64 .i64 64 6 a b), .int .i64 0]) ∧ w = w' := by
  have HE : Hid (((gather (fun j => eachBit 6 (a.testBit j) (b.testBit j)) 64 : Nat) : Int) = opV .u64 .i64 64 6 a b) := Lib.hid ((each_and a b ha hb).trans (u64_and_nat a b ha hb).symm)
  go_enter Try.func35, Try.ntmps35
  go_wp2_with fail
  refine (each_any 6 a b _ (by omega) (by omega) (by omega)).mono ?_
  rintro e w1 ⟨rfl, rfl⟩
  go_wp2_with fail
  go_ret2
  refine ⟨?_, rfl⟩
  rw [← HE.out]
  rfl

theorem rdo_w_7 (a b : Nat) (w : World) (ha : a < 18446744073709551616) (hb : b < 18446744073709551616) :
    Calls Try.prog 35 #[.int .u8 7, .bool false, .int .u64 a, .int .u64 b] w fun e w' => e = .returned (.tuple #[.int .u64 (opV .u64 .i64 64 7 a b), .int .i64 0]) ∧ w = w' := by
  have HE : Hid (((gather (fun j => eachBit 7 (a.testBit j) (b.testBit j)) 64 : Nat) : Int) = opV .u64 .i64 64 7 a b) := Lib.hid ((each_or a b ha hb).trans (u64_or_nat a b ha hb).symm)
  go_enter Try.func35, Try.ntmps35
  go_wp2_with fail
  refine (each_any 7 a b _ (by omega) (by omega) (by omega)).mono ?_
  rintro e w1 ⟨rfl, rfl⟩
  go_wp2_with fail
  go_ret2
  refine ⟨?_, rfl⟩
  rw [← HE.out]
  rfl

theorem rdo_w_8 (a b : Nat) (w : World) (ha : a < 18446744073709551616) (hb : b < 18446744073709551616) :
    Calls Try.prog 35 #[.int .u8 8, .bool false, .int .u64 a, .int .u64 b] w fun e w' => e = .returned (.tuple #[.int .u64 (opV .u64 .i64 64 8 a b), .int .i64 0]) ∧ w = w' := by
  have HE : Hid (((gather (fun j => eachBit 8 (a.testBit j) (b.testBit j)) 64 : Nat) : Int) = opV .u64 .i64 64 8 a b) := Lib.hid ((each_xor a b ha hb).trans (u64_xor_nat a b ha hb).symm)
  go_enter Try.func35, Try.ntmps35
  go_wp2_with fail
  refine (each_any 8 a b _ (by omega) (by omega) (by omega)).mono ?_
  rintro e w1 ⟨rfl, rfl⟩
  go_wp2_with fail
  go_ret2
  refine ⟨?_, rfl⟩
  rw [← HE.out]
  rfl

theorem rdo_w_9 (a b : Nat) (w : World) (ha : a < 18446744073709551616) (hb : b < 18446744073709551616) :
    Calls Try.prog 35 #[.int .u8 9, .bool false, .int .u64 a, .int .u64 b] w fun e w' => e = .returned (.tuple #[.int .u64 (opV .u64 .i64 64 9 a b), .int .i64 0]) ∧ w = w' := by
  have HE : Hid (((movedN a ((b : Int) % 64) 64 false 64 : Nat) : Int) = opV .u64 .i64 64 9 a b) := Lib.hid (up_w a b)
  go_enter Try.func35, Try.ntmps35
  go_wp2_with fail
  refine (moved_any a _ 64 false _ (by omega) (by omega) (by omega) (by omega)).mono ?_
  rintro e w1 ⟨rfl, rfl⟩
  go_wp2_with fail
  go_ret2
  refine ⟨?_, rfl⟩
  rw [← HE.out]
  rfl

theorem rdo_w_10 (a b : Nat) (w : World) (ha : a < 18446744073709551616) (hb : b < 18446744073709551616) :
    Calls Try.prog 35 #[.int .u8 10, .bool false, .int .u64 a, .int .u64 b] w fun e w' => e = .returned (.tuple #[.int .u64 (opV .u64 .i64 64 10 a b), .int .i64 0]) ∧ w = w' := by
  have HE : Hid (((movedN a (-((b : Int) % 64)) 64 false 64 : Nat) : Int) = opV .u64 .i64 64 10 a b) := Lib.hid (down_w a b ha)
  go_enter Try.func35, Try.ntmps35
  go_wp2_with fail
  refine (moved_any a _ 64 false _ (by omega) (by omega) (by omega) (by omega)).mono ?_
  rintro e w1 ⟨rfl, rfl⟩
  go_wp2_with fail
  go_ret2
  refine ⟨?_, rfl⟩
  rw [← HE.out]
  rfl

theorem rdo_w_11 (a b : Nat) (w : World) (ha : a < 18446744073709551616) (hb : b < 18446744073709551616) :
    Calls Try.prog 35 #[.int .u8 11, .bool false, .int .u64 a, .int .u64 b] w fun e w' => e = .returned (.tuple #[.int .u64 (opV .u64 .i64 64 11 a b), .int .i64 0]) ∧ ∃ n, w.drewN n = w' := by
  have HE : Hid (((movedN a (-((b : Int) % 64)) 64 (a.testBit 63) 64 : Nat) : Int) = opV .u64 .i64 64 11 a b) := Lib.hid (sar_w a b ha)
  go_enter Try.func35, Try.ntmps35
  go_wp2_with fail
  go_quiet ((first | (go_at_call 59; exact quiet_left (bit_any a 63 _ (by omega) (by omega))) | (go_at_call 58; exact quiet_left (moved_any a _ 64 _ _ (by omega) (by omega) (by omega) (by omega)))))
  go_wp2_with fail
  go_ret2
  refine ⟨?_, ⟨_, rfl⟩⟩
  rw [← HE.out]
  rfl

theorem rdo_w_12 (a b : Nat) (w : World) (ha : a < 18446744073709551616) (hb : b < 18446744073709551616) :
    Calls Try.prog 35 #[.int .u8 12, .bool false, .int .u64 a, .int .u64 b] w fun e w' => e = .returned (.tuple #[.int .u64 (opV .u64 .i64 64 12 a b), .int .i64 0]) ∧ w = w' := by
  have HE : Hid ((b : Int) = opV .u64 .i64 64 12 a b) := Lib.hid (rfl)
  go_enter Try.func35, Try.ntmps35
  go_wp2_with fail
  go_ret2
  refine ⟨?_, rfl⟩
  rw [← HE.out]
  rfl

theorem rdo_w_13 (a b : Nat) (w : World) (ha : a < 18446744073709551616) (hb : b < 18446744073709551616) :
    Calls Try.prog 35 #[.int .u8 13, .bool false, .int .u64 a, .int .u64 b] w fun e w' => e = .returned (.tuple #[.int .u64 (opV .u64 .i64 64 13 a b), .int .i64 0]) ∧ w = w' := by
  have HE : Hid (IntKind.u64.wrap (-(a : Int)) = opV .u64 .i64 64 13 a b) := Lib.hid (rfl)
  go_enter Try.func35, Try.ntmps35
  go_wp2_with fail
  go_ret2
  refine ⟨?_, rfl⟩
  rw [← HE.out]
  rfl

theorem rdo_w_z4 (a b : Nat) (w : World) (ha : a < 18446744073709551616) (hb : b < 18446744073709551616) (hbz : b = 0) :
    Calls Try.prog 35 #[.int .u8 4, .bool false, .int .u64 a, .int .u64 b] w fun e w' => e = .returned (.tuple #[.int .u64 0, .int .i64 113]) ∧ w = w' := by
  subst hbz
  go_enter Try.func35, Try.ntmps35
  go_wp2_with fail
  go_ret2
  exact ⟨rfl, rfl⟩

theorem rdo_w_z5 (a b : Nat) (w : World) (ha : a < 18446744073709551616) (hb : b < 18446744073709551616) (hbz : b = 0) :
    Calls Try.prog 35 #[.int .u8 5, .bool false, .int .u64 a, .int .u64 b] w fun e w' => e = .returned (.tuple #[.int .u64 0, .int .i64 113]) ∧ w = w' := by
  subst hbz
  go_enter Try.func35, Try.ntmps35
  go_wp2_with fail
  go_ret2
  exact ⟨rfl, rfl⟩

theorem rdo_w_no (op : Int) (a b : Nat) (w : World) (ha : a < 18446744073709551616) (hb : b < 18446744073709551616) (h1 : (op == 1) = false) (h2 : (op == 2) = false) (h3 : (op == 3) = false) (h4 : (op == 4) = false) (h5 : (op == 5) = false) (h6 : (op == 6) = false) (h7 : (op == 7) = false) (h8 : (op == 8) = false) (h9 : (op == 9) = false) (h10 : (op == 10) = false) (h11 : (op == 11) = false) (h12 : (op == 12) = false) (h13 : (op == 13) = false) :
    Calls Try.prog 35 #[.int .u8 op, .bool false, .int .u64 a, .int .u64 b] w fun e w' => e = .returned (.tuple #[.int .u64 0, .int .i64 2]) ∧ w = w' := by
  go_enter Try.func35, Try.ntmps35
  go_wp2_with fail
  go_ret2
  exact ⟨rfl, rfl⟩

theorem rdo_n_1 (a b A B : Nat) (w : World) (ha : a < 18446744073709551616) (hb : b < 18446744073709551616) (hA : bits BinOp.and .u64 (a : Int) 4294967295 = (A : Int)) (hA2 : A < 4294967296) (hB : bits BinOp.and .u64 (b : Int) 4294967295 = (B : Int)) (hB2 : B < 4294967296) :
    Calls Try.prog 35 #[.int .u8 1, .bool true, .int .u64 a, .int .u64 b] w fun e w' => e = .returned (.tuple #[.int .u64 (opV .u32 .i32 32 1 A B), .int .i64 0]) ∧ w = w' := by
  have HE : Hid (bits BinOp.and .u64 (((A : Int) + B)) 4294967295 = opV .u32 .i32 32 1 A B) := Lib.hid (by rw [low_eq _ (by omega) (by omega)]; exact (w32 _).symm)
  go_enter Try.func35, Try.ntmps35
  go_wp2_with fail
  go_ret2
  refine ⟨?_, rfl⟩
  rw [← HE.out]
  rfl

theorem rdo_n_2 (a b A B : Nat) (w : World) (ha : a < 18446744073709551616) (hb : b < 18446744073709551616) (hA : bits BinOp.and .u64 (a : Int) 4294967295 = (A : Int)) (hA2 : A < 4294967296) (hB : bits BinOp.and .u64 (b : Int) 4294967295 = (B : Int)) (hB2 : B < 4294967296) :
    Calls Try.prog 35 #[.int .u8 2, .bool true, .int .u64 a, .int .u64 b] w fun e w' => e = .returned (.tuple #[.int .u64 (opV .u32 .i32 32 2 A B), .int .i64 0]) ∧ w = w' := by
  have HE : Hid (bits BinOp.and .u64 (IntKind.u64.wrap ((A : Int) - B)) 4294967295 = opV .u32 .i32 32 2 A B) := Lib.hid (low_wrap _)
  go_enter Try.func35, Try.ntmps35
  go_wp2_with fail
  go_ret2
  refine ⟨?_, rfl⟩
  rw [← HE.out]
  rfl

theorem rdo_n_3 (a b A B : Nat) (w : World) (ha : a < 18446744073709551616) (hb : b < 18446744073709551616) (hA : bits BinOp.and .u64 (a : Int) 4294967295 = (A : Int)) (hA2 : A < 4294967296) (hB : bits BinOp.and .u64 (b : Int) 4294967295 = (B : Int)) (hB2 : B < 4294967296) :
    Calls Try.prog 35 #[.int .u8 3, .bool true, .int .u64 a, .int .u64 b] w fun e w' => e = .returned (.tuple #[.int .u64 (opV .u32 .i32 32 3 A B), .int .i64 0]) ∧ w = w' := by
  have HE : Hid (bits BinOp.and .u64 (IntKind.u64.wrap ((A : Int) * B)) 4294967295 = opV .u32 .i32 32 3 A B) := Lib.hid (low_wrap _)
  go_enter Try.func35, Try.ntmps35
  go_wp2_with fail
  go_ret2
  refine ⟨?_, rfl⟩
  rw [← HE.out]
  rfl

theorem rdo_n_4 (a b A B : Nat) (w : World) (ha : a < 18446744073709551616) (hb : b < 18446744073709551616) (hA : bits BinOp.and .u64 (a : Int) 4294967295 = (A : Int)) (hA2 : A < 4294967296) (hB : bits BinOp.and .u64 (b : Int) 4294967295 = (B : Int)) (hB2 : B < 4294967296) (hbz : 1 ≤ B) :
    Calls Try.prog 35 #[.int .u8 4, .bool true, .int .u64 a, .int .u64 b] w fun e w' => e = .returned (.tuple #[.int .u64 (opV .u32 .i32 32 4 A B), .int .i64 0]) ∧ w = w' := by
  have HE : Hid (bits BinOp.and .u64 (IntKind.u64.wrap ((A : Int) / B)) 4294967295 = opV .u32 .i32 32 4 A B) := Lib.hid (by rw [div_w A B (by omega), low_eq _ (div_range _ _ 4294967295 (by omega) (by omega) (by omega)).1 (by have := (div_range (A : Int) B 4294967295 (by omega) (by omega) (by omega)).2; omega), Int.emod_eq_of_lt (div_range _ _ 4294967295 (by omega) (by omega) (by omega)).1 (by have := (div_range (A : Int) B 4294967295 (by omega) (by omega) (by omega)).2; omega)]; rfl)
  have hb1 : 1 ≤ (B : Int) := by omega
  have hz : ((B : Int) == 0) = false := beq_eq_false_iff_ne.2 (by omega)
  go_enter Try.func35, Try.ntmps35
  go_wp2_with fail
  go_ret2
  refine ⟨?_, rfl⟩
  rw [← HE.out]
  rfl

theorem rdo_n_5 (a b A B : Nat) (w : World) (ha : a < 18446744073709551616) (hb : b < 18446744073709551616) (hA : bits BinOp.and .u64 (a : Int) 4294967295 = (A : Int)) (hA2 : A < 4294967296) (hB : bits BinOp.and .u64 (b : Int) 4294967295 = (B : Int)) (hB2 : B < 4294967296) (hbz : 1 ≤ B) :
    Calls Try.prog 35 #[.int .u8 5, .bool true, .int .u64 a, .int .u64 b] w fun e w' => e = .returned (.tuple #[.int .u64 (opV .u32 .i32 32 5 A B), .int .i64 0]) ∧ w = w' := by
  have HE : Hid (bits BinOp.and .u64 (IntKind.u64.wrap ((A : Int) - IntKind.u64.wrap (IntKind.u64.wrap ((A : Int) / B) * B))) 4294967295 = opV .u32 .i32 32 5 A B) := Lib.hid (by rw [mod_w A B (by omega), low_eq _ (mod_range _ _ 4294967295 (by omega) (by omega) (by omega)).1 (by have := (mod_range (A : Int) B 4294967295 (by omega) (by omega) (by omega)).2; omega), Int.emod_eq_of_lt (mod_range _ _ 4294967295 (by omega) (by omega) (by omega)).1 (by have := (mod_range (A : Int) B 4294967295 (by omega) (by omega) (by omega)).2; omega)]; rfl)
  have hb1 : 1 ≤ (B : Int) := by omega
  have hz : ((B : Int) == 0) = false := beq_eq_false_iff_ne.2 (by omega)
  go_enter Try.func35, Try.ntmps35
  go_wp2_with fail
  go_ret2
  refine ⟨?_, rfl⟩
  rw [← HE.out]
  rfl

theorem rdo_n_6 (a b A B : Nat) (w : World) (ha : a < 18446744073709551616) (hb : b < 18446744073709551616) (hA : bits BinOp.and .u64 (a : Int) 4294967295 = (A : Int)) (hA2 : A < 4294967296) (hB : bits BinOp.and .u64 (b : Int) 4294967295 = (B : Int)) (hB2 : B < 4294967296) :
    Calls Try.prog 35 #[.int .u8 6, .bool true, .int .u64 a, .int .u64 b] w fun e w' => e = .returned (.tuple #[.int .u64 (opV .u32 .i32 32 6 A B), .int .i64 0]) ∧ w = w' := by
  have HE : Hid (bits BinOp.and .u64 (((gather (fun j => eachBit 6 (A.testBit j) (B.testBit j)) 64 : Nat) : Int)) 4294967295 = opV .u32 .i32 32 6 A B) := Lib.hid (by rw [each_and A B (by omega) (by omega), low_nat _ (Nat.and_lt_two_pow (n := 32) _ hB2)]; exact (u32_and_nat A B hA2 hB2).symm)
  go_enter Try.func35, Try.ntmps35
  go_wp2_with fail
  refine (each_any 6 A B _ (by omega) (by omega) (by omega)).mono ?_
  rintro e w1 ⟨rfl, rfl⟩
  go_wp2_with fail
  go_ret2
  refine ⟨?_, rfl⟩
  rw [← HE.out]
  rfl

theorem rdo_n_7 (a b A B : Nat) (w : World) (ha : a < 18446744073709551616) (hb : b < 18446744073709551616) (hA : bits BinOp.and .u64 (a : Int) 4294967295 = (A : Int)) (hA2 : A < 4294967296) (hB : bits BinOp.and .u64 (b : Int) 4294967295 = (B : Int)) (hB2 : B < 4294967296) :
    Calls Try.prog 35 #[.int .u8 7, .bool true, .int .u64 a, .int .u64 b] w fun e w' => e = .returned (.tuple #[.int .u64 (opV .u32 .i32 32 7 A B), .int .i64 0]) ∧ w = w' := by
  have HE : Hid (bits BinOp.and .u64 (((gather (fun j => eachBit 7 (A.testBit j) (B.testBit j)) 64 : Nat) : Int)) 4294967295 = opV .u32 .i32 32 7 A B) := Lib.hid (by rw [each_or A B (by omega) (by omega), low_nat _ (Nat.or_lt_two_pow (n := 32) hA2 hB2)]; exact (u32_or_nat A B hA2 hB2).symm)
  go_enter Try.func35, Try.ntmps35
  go_wp2_with fail
  refine (each_any 7 A B _ (by omega) (by omega) (by omega)).mono ?_
  rintro e w1 ⟨rfl, rfl⟩
  go_wp2_with fail
  go_ret2
  refine ⟨?_, rfl⟩
  rw [← HE.out]
  rfl

theorem rdo_n_8 (a b A B : Nat) (w : World) (ha : a < 18446744073709551616) (hb : b < 18446744073709551616) (hA : bits BinOp.and .u64 (a : Int) 4294967295 = (A : Int)) (hA2 : A < 4294967296) (hB : bits BinOp.and .u64 (b : Int) 4294967295 = (B : Int)) (hB2 : B < 4294967296) :
    Calls Try.prog 35 #[.int .u8 8, .bool true, .int .u64 a, .int .u64 b] w fun e w' => e = .returned (.tuple #[.int .u64 (opV .u32 .i32 32 8 A B), .int .i64 0]) ∧ w = w' := by
  have HE : Hid (bits BinOp.and .u64 (((gather (fun j => eachBit 8 (A.testBit j) (B.testBit j)) 64 : Nat) : Int)) 4294967295 = opV .u32 .i32 32 8 A B) := Lib.hid (by rw [each_xor A B (by omega) (by omega), low_nat _ (Nat.xor_lt_two_pow (n := 32) hA2 hB2)]; exact (u32_xor_nat A B hA2 hB2).symm)
  go_enter Try.func35, Try.ntmps35
  go_wp2_with fail
  refine (each_any 8 A B _ (by omega) (by omega) (by omega)).mono ?_
  rintro e w1 ⟨rfl, rfl⟩
  go_wp2_with fail
  go_ret2
  refine ⟨?_, rfl⟩
  rw [← HE.out]
  rfl

theorem rdo_n_9 (a b A B : Nat) (w : World) (ha : a < 18446744073709551616) (hb : b < 18446744073709551616) (hA : bits BinOp.and .u64 (a : Int) 4294967295 = (A : Int)) (hA2 : A < 4294967296) (hB : bits BinOp.and .u64 (b : Int) 4294967295 = (B : Int)) (hB2 : B < 4294967296) :
    Calls Try.prog 35 #[.int .u8 9, .bool true, .int .u64 a, .int .u64 b] w fun e w' => e = .returned (.tuple #[.int .u64 (opV .u32 .i32 32 9 A B), .int .i64 0]) ∧ w = w' := by
  have HE : Hid (bits BinOp.and .u64 (((movedN A ((B : Int) % 32) 32 false 32 : Nat) : Int)) 4294967295 = opV .u32 .i32 32 9 A B) := Lib.hid (by rw [low_nat _ (moved_lt A _ 32 _)]; exact up_n A B)
  go_enter Try.func35, Try.ntmps35
  go_wp2_with fail
  refine (moved_any A _ 32 false _ (by omega) (by omega) (by omega) (by omega)).mono ?_
  rintro e w1 ⟨rfl, rfl⟩
  go_wp2_with fail
  go_ret2
  refine ⟨?_, rfl⟩
  rw [← HE.out]
  rfl

theorem rdo_n_10 (a b A B : Nat) (w : World) (ha : a < 18446744073709551616) (hb : b < 18446744073709551616) (hA : bits BinOp.and .u64 (a : Int) 4294967295 = (A : Int)) (hA2 : A < 4294967296) (hB : bits BinOp.and .u64 (b : Int) 4294967295 = (B : Int)) (hB2 : B < 4294967296) :
    Calls Try.prog 35 #[.int .u8 10, .bool true, .int .u64 a, .int .u64 b] w fun e w' => e = .returned (.tuple #[.int .u64 (opV .u32 .i32 32 10 A B), .int .i64 0]) ∧ w = w' := by
  have HE : Hid (bits BinOp.and .u64 (((movedN A (-((B : Int) % 32)) 32 false 32 : Nat) : Int)) 4294967295 = opV .u32 .i32 32 10 A B) := Lib.hid (by rw [low_nat _ (moved_lt A _ 32 _)]; exact down_n A B hA2)
  go_enter Try.func35, Try.ntmps35
  go_wp2_with fail
  refine (moved_any A _ 32 false _ (by omega) (by omega) (by omega) (by omega)).mono ?_
  rintro e w1 ⟨rfl, rfl⟩
  go_wp2_with fail
  go_ret2
  refine ⟨?_, rfl⟩
  rw [← HE.out]
  rfl

theorem rdo_n_11 (a b A B : Nat) (w : World) (ha : a < 18446744073709551616) (hb : b < 18446744073709551616) (hA : bits BinOp.and .u64 (a : Int) 4294967295 = (A : Int)) (hA2 : A < 4294967296) (hB : bits BinOp.and .u64 (b : Int) 4294967295 = (B : Int)) (hB2 : B < 4294967296) :
    Calls Try.prog 35 #[.int .u8 11, .bool true, .int .u64 a, .int .u64 b] w fun e w' => e = .returned (.tuple #[.int .u64 (opV .u32 .i32 32 11 A B), .int .i64 0]) ∧ ∃ n, w.drewN n = w' := by
  have HE : Hid (bits BinOp.and .u64 (((movedN A (-((B : Int) % 32)) 32 (A.testBit 31) 32 : Nat) : Int)) 4294967295 = opV .u32 .i32 32 11 A B) := Lib.hid (by rw [low_nat _ (moved_lt A _ 32 _)]; exact sar_n A B hA2)
  go_enter Try.func35, Try.ntmps35
  go_wp2_with fail
  go_quiet ((first | (go_at_call 59; exact quiet_left (bit_any A 31 _ (by omega) (by omega))) | (go_at_call 58; exact quiet_left (moved_any A _ 32 _ _ (by omega) (by omega) (by omega) (by omega)))))
  go_wp2_with fail
  go_ret2
  refine ⟨?_, ⟨_, rfl⟩⟩
  rw [← HE.out]
  rfl

theorem rdo_n_12 (a b A B : Nat) (w : World) (ha : a < 18446744073709551616) (hb : b < 18446744073709551616) (hA : bits BinOp.and .u64 (a : Int) 4294967295 = (A : Int)) (hA2 : A < 4294967296) (hB : bits BinOp.and .u64 (b : Int) 4294967295 = (B : Int)) (hB2 : B < 4294967296) :
    Calls Try.prog 35 #[.int .u8 12, .bool true, .int .u64 a, .int .u64 b] w fun e w' => e = .returned (.tuple #[.int .u64 (opV .u32 .i32 32 12 A B), .int .i64 0]) ∧ w = w' := by
  have HE : Hid (bits BinOp.and .u64 ((B : Int)) 4294967295 = opV .u32 .i32 32 12 A B) := Lib.hid (low_nat B hB2)
  go_enter Try.func35, Try.ntmps35
  go_wp2_with fail
  go_ret2
  refine ⟨?_, rfl⟩
  rw [← HE.out]
  rfl

theorem rdo_n_13 (a b A B : Nat) (w : World) (ha : a < 18446744073709551616) (hb : b < 18446744073709551616) (hA : bits BinOp.and .u64 (a : Int) 4294967295 = (A : Int)) (hA2 : A < 4294967296) (hB : bits BinOp.and .u64 (b : Int) 4294967295 = (B : Int)) (hB2 : B < 4294967296) :
    Calls Try.prog 35 #[.int .u8 13, .bool true, .int .u64 a, .int .u64 b] w fun e w' => e = .returned (.tuple #[.int .u64 (opV .u32 .i32 32 13 A B), .int .i64 0]) ∧ w = w' := by
  have HE : Hid (bits BinOp.and .u64 (IntKind.u64.wrap (-(A : Int))) 4294967295 = opV .u32 .i32 32 13 A B) := Lib.hid (low_wrap _)
  go_enter Try.func35, Try.ntmps35
  go_wp2_with fail
  go_ret2
  refine ⟨?_, rfl⟩
  rw [← HE.out]
  rfl

theorem rdo_n_z4 (a b A B : Nat) (w : World) (ha : a < 18446744073709551616) (hb : b < 18446744073709551616) (hA : bits BinOp.and .u64 (a : Int) 4294967295 = (A : Int)) (hA2 : A < 4294967296) (hB : bits BinOp.and .u64 (b : Int) 4294967295 = (B : Int)) (hB2 : B < 4294967296) (hbz : B = 0) :
    Calls Try.prog 35 #[.int .u8 4, .bool true, .int .u64 a, .int .u64 b] w fun e w' => e = .returned (.tuple #[.int .u64 0, .int .i64 113]) ∧ w = w' := by
  subst hbz
  go_enter Try.func35, Try.ntmps35
  go_wp2_with fail
  go_ret2
  exact ⟨rfl, rfl⟩

theorem rdo_n_z5 (a b A B : Nat) (w : World) (ha : a < 18446744073709551616) (hb : b < 18446744073709551616) (hA : bits BinOp.and .u64 (a : Int) 4294967295 = (A : Int)) (hA2 : A < 4294967296) (hB : bits BinOp.and .u64 (b : Int) 4294967295 = (B : Int)) (hB2 : B < 4294967296) (hbz : B = 0) :
    Calls Try.prog 35 #[.int .u8 5, .bool true, .int .u64 a, .int .u64 b] w fun e w' => e = .returned (.tuple #[.int .u64 0, .int .i64 113]) ∧ w = w' := by
  subst hbz
  go_enter Try.func35, Try.ntmps35
  go_wp2_with fail
  go_ret2
  exact ⟨rfl, rfl⟩

theorem rdo_n_no (op : Int) (a b A B : Nat) (w : World) (ha : a < 18446744073709551616) (hb : b < 18446744073709551616) (hA : bits BinOp.and .u64 (a : Int) 4294967295 = (A : Int)) (hA2 : A < 4294967296) (hB : bits BinOp.and .u64 (b : Int) 4294967295 = (B : Int)) (hB2 : B < 4294967296) (h1 : (op == 1) = false) (h2 : (op == 2) = false) (h3 : (op == 3) = false) (h4 : (op == 4) = false) (h5 : (op == 5) = false) (h6 : (op == 6) = false) (h7 : (op == 7) = false) (h8 : (op == 8) = false) (h9 : (op == 9) = false) (h10 : (op == 10) = false) (h11 : (op == 11) = false) (h12 : (op == 12) = false) (h13 : (op == 13) = false) :
    Calls Try.prog 35 #[.int .u8 op, .bool true, .int .u64 a, .int .u64 b] w fun e w' => e = .returned (.tuple #[.int .u64 0, .int .i64 2]) ∧ w = w' := by
  go_enter Try.func35, Try.ntmps35
  go_wp2_with fail
  go_ret2
  exact ⟨rfl, rfl⟩

end Go.Proofs.Ytbfegghkipoppaa
namespace Go.Proofs.Ytbfegghkipoppaa
set_option maxRecDepth 100000
open Go.RowKit
set_option linter.unusedVariables false

theorem xor_top (x k : Nat) (hx : x < 2 ^ (k + 1)) : x ^^^ 2 ^ k = (2 ^ k + x) % 2 ^ (k + 1) := by
  apply Nat.eq_of_testBit_eq
  intro j
  rw [Nat.testBit_xor, Nat.testBit_two_pow, Nat.testBit_mod_two_pow]
  rcases Nat.lt_trichotomy j k with h | h | h
  · rw [Nat.testBit_two_pow_add_gt h]
    simp [show ¬ k = j by omega, show j < k + 1 by omega]
  · subst h
    rw [Nat.testBit_two_pow_add_eq]
    simp
  · rw [Nat.testBit_lt_two_pow (Nat.lt_of_lt_of_le hx (Nat.pow_le_pow_right (by omega) (by omega : k + 1 ≤ j)))]
    simp [show ¬ k = j by omega, show ¬ j < k + 1 by omega]
theorem xor_w (a : Nat) (ha : a < 18446744073709551616) : bits BinOp.xor .u64 (a : Int) 9223372036854775808 = IntKind.i64.wrap a + 9223372036854775808 := by
  rw [show (9223372036854775808 : Int) = ((2 ^ 63 : Nat) : Int) by decide, u64_xor_nat a _ ha (by decide), xor_top a 63 ha, IntKind.wrap_i64]
  omega
theorem xor_n (a : Nat) (ha : a < 4294967296) : bits BinOp.xor .u64 (a : Int) 2147483648 = IntKind.i32.wrap a + 2147483648 := by
  rw [show (2147483648 : Int) = ((2 ^ 31 : Nat) : Int) by decide, u64_xor_nat a _ (by omega) (by decide), xor_top a 31 ha, IntKind.wrap_i32]
  omega
theorem dec_lt (x y m : Int) : decide (x + m < y + m) = decide (x < y) := by
  rw [Bool.eq_iff_iff]; simp
theorem dec_le (x y m : Int) : decide (x + m ≤ y + m) = decide (x ≤ y) := by
  rw [Bool.eq_iff_iff]; simp

theorem ris_w_17 (a b : Nat) (w : World) (ha : a < 18446744073709551616) (hb : b < 18446744073709551616) :
    Calls Try.prog 39 #[.int .u8 17, .bool false, .int .u64 a, .int .u64 b] w fun e w' => e = .returned (.tuple #[.bool (isV .u64 .i64 17 a b), .int .i64 0]) ∧ w = w' := by
  go_enter Try.func39, Try.ntmps39
  go_wp2_with fail
  go_ret2
  exact ⟨rfl, rfl⟩

theorem ris_w_18 (a b : Nat) (w : World) (ha : a < 18446744073709551616) (hb : b < 18446744073709551616) :
    Calls Try.prog 39 #[.int .u8 18, .bool false, .int .u64 a, .int .u64 b] w fun e w' => e = .returned (.tuple #[.bool (isV .u64 .i64 18 a b), .int .i64 0]) ∧ w = w' := by
  go_enter Try.func39, Try.ntmps39
  go_wp2_with fail
  go_ret2
  exact ⟨rfl, rfl⟩

theorem ris_w_19 (a b : Nat) (w : World) (ha : a < 18446744073709551616) (hb : b < 18446744073709551616) :
    Calls Try.prog 39 #[.int .u8 19, .bool false, .int .u64 a, .int .u64 b] w fun e w' => e = .returned (.tuple #[.bool (isV .u64 .i64 19 a b), .int .i64 0]) ∧ w = w' := by
  have HE : Hid (decide (b < a) = decide ((b : Int) < (a : Int))) := Lib.hid (by rw [Bool.eq_iff_iff]; simp)
  go_enter Try.func39, Try.ntmps39
  go_wp2_with fail
  go_ret2
  refine ⟨?_, rfl⟩
  show _ = Ending.returned (.tuple #[.bool (decide ((b : Int) < (a : Int))), .int .i64 0])
  rw [← HE.out]
  rfl

theorem ris_w_20 (a b : Nat) (w : World) (ha : a < 18446744073709551616) (hb : b < 18446744073709551616) :
    Calls Try.prog 39 #[.int .u8 20, .bool false, .int .u64 a, .int .u64 b] w fun e w' => e = .returned (.tuple #[.bool (isV .u64 .i64 20 a b), .int .i64 0]) ∧ w = w' := by
  have HE : Hid (decide (b ≤ a) = decide ((b : Int) ≤ (a : Int))) := Lib.hid (by rw [Bool.eq_iff_iff]; simp)
  go_enter Try.func39, Try.ntmps39
  go_wp2_with fail
  go_ret2
  refine ⟨?_, rfl⟩
  show _ = Ending.returned (.tuple #[.bool (decide ((b : Int) ≤ (a : Int))), .int .i64 0])
  rw [← HE.out]
  rfl

theorem ris_w_21 (a b : Nat) (w : World) (ha : a < 18446744073709551616) (hb : b < 18446744073709551616) :
    Calls Try.prog 39 #[.int .u8 21, .bool false, .int .u64 a, .int .u64 b] w fun e w' => e = .returned (.tuple #[.bool (isV .u64 .i64 21 a b), .int .i64 0]) ∧ w = w' := by
  have HE : Hid (decide (a < b) = decide ((a : Int) < (b : Int))) := Lib.hid (by rw [Bool.eq_iff_iff]; simp)
  go_enter Try.func39, Try.ntmps39
  go_wp2_with fail
  go_ret2
  refine ⟨?_, rfl⟩
  show _ = Ending.returned (.tuple #[.bool (decide ((a : Int) < (b : Int))), .int .i64 0])
  rw [← HE.out]
  rfl

theorem ris_w_22 (a b : Nat) (w : World) (ha : a < 18446744073709551616) (hb : b < 18446744073709551616) :
    Calls Try.prog 39 #[.int .u8 22, .bool false, .int .u64 a, .int .u64 b] w fun e w' => e = .returned (.tuple #[.bool (isV .u64 .i64 22 a b), .int .i64 0]) ∧ w = w' := by
  have HE : Hid (decide (a ≤ b) = decide ((a : Int) ≤ (b : Int))) := Lib.hid (by rw [Bool.eq_iff_iff]; simp)
  go_enter Try.func39, Try.ntmps39
  go_wp2_with fail
  go_ret2
  refine ⟨?_, rfl⟩
  show _ = Ending.returned (.tuple #[.bool (decide ((a : Int) ≤ (b : Int))), .int .i64 0])
  rw [← HE.out]
  rfl

theorem ris_w_23 (a b : Nat) (w : World) (ha : a < 18446744073709551616) (hb : b < 18446744073709551616) :
    Calls Try.prog 39 #[.int .u8 23, .bool false, .int .u64 a, .int .u64 b] w fun e w' => e = .returned (.tuple #[.bool (isV .u64 .i64 23 a b), .int .i64 0]) ∧ w = w' := by
  have HE : Hid (decide (bits BinOp.xor .u64 (b : Int) 9223372036854775808 < bits BinOp.xor .u64 (a : Int) 9223372036854775808) = decide (IntKind.i64.wrap (b : Int) < IntKind.i64.wrap (a : Int))) := Lib.hid (by rw [xor_w a ha, xor_w b hb]; exact dec_lt _ _ _)
  go_enter Try.func39, Try.ntmps39
  go_wp2_with fail
  go_ret2
  refine ⟨?_, rfl⟩
  show _ = Ending.returned (.tuple #[.bool (decide (IntKind.i64.wrap (b : Int) < IntKind.i64.wrap (a : Int))), .int .i64 0])
  rw [← HE.out]
  rfl

theorem ris_w_24 (a b : Nat) (w : World) (ha : a < 18446744073709551616) (hb : b < 18446744073709551616) :
    Calls Try.prog 39 #[.int .u8 24, .bool false, .int .u64 a, .int .u64 b] w fun e w' => e = .returned (.tuple #[.bool (isV .u64 .i64 24 a b), .int .i64 0]) ∧ w = w' := by
  have HE : Hid (decide (bits BinOp.xor .u64 (b : Int) 9223372036854775808 ≤ bits BinOp.xor .u64 (a : Int) 9223372036854775808) = decide (IntKind.i64.wrap (b : Int) ≤ IntKind.i64.wrap (a : Int))) := Lib.hid (by rw [xor_w a ha, xor_w b hb]; exact dec_le _ _ _)
  go_enter Try.func39, Try.ntmps39
  go_wp2_with fail
  go_ret2
  refine ⟨?_, rfl⟩
  show _ = Ending.returned (.tuple #[.bool (decide (IntKind.i64.wrap (b : Int) ≤ IntKind.i64.wrap (a : Int))), .int .i64 0])
  rw [← HE.out]
  rfl

theorem ris_w_25 (a b : Nat) (w : World) (ha : a < 18446744073709551616) (hb : b < 18446744073709551616) :
    Calls Try.prog 39 #[.int .u8 25, .bool false, .int .u64 a, .int .u64 b] w fun e w' => e = .returned (.tuple #[.bool (isV .u64 .i64 25 a b), .int .i64 0]) ∧ w = w' := by
  have HE : Hid (decide (bits BinOp.xor .u64 (a : Int) 9223372036854775808 < bits BinOp.xor .u64 (b : Int) 9223372036854775808) = decide (IntKind.i64.wrap (a : Int) < IntKind.i64.wrap (b : Int))) := Lib.hid (by rw [xor_w a ha, xor_w b hb]; exact dec_lt _ _ _)
  go_enter Try.func39, Try.ntmps39
  go_wp2_with fail
  go_ret2
  refine ⟨?_, rfl⟩
  show _ = Ending.returned (.tuple #[.bool (decide (IntKind.i64.wrap (a : Int) < IntKind.i64.wrap (b : Int))), .int .i64 0])
  rw [← HE.out]
  rfl

theorem ris_w_26 (a b : Nat) (w : World) (ha : a < 18446744073709551616) (hb : b < 18446744073709551616) :
    Calls Try.prog 39 #[.int .u8 26, .bool false, .int .u64 a, .int .u64 b] w fun e w' => e = .returned (.tuple #[.bool (isV .u64 .i64 26 a b), .int .i64 0]) ∧ w = w' := by
  have HE : Hid (decide (bits BinOp.xor .u64 (a : Int) 9223372036854775808 ≤ bits BinOp.xor .u64 (b : Int) 9223372036854775808) = decide (IntKind.i64.wrap (a : Int) ≤ IntKind.i64.wrap (b : Int))) := Lib.hid (by rw [xor_w a ha, xor_w b hb]; exact dec_le _ _ _)
  go_enter Try.func39, Try.ntmps39
  go_wp2_with fail
  go_ret2
  refine ⟨?_, rfl⟩
  show _ = Ending.returned (.tuple #[.bool (decide (IntKind.i64.wrap (a : Int) ≤ IntKind.i64.wrap (b : Int))), .int .i64 0])
  rw [← HE.out]
  rfl

theorem ris_w_27 (a b : Nat) (w : World) (ha : a < 18446744073709551616) (hb : b < 18446744073709551616) :
    Calls Try.prog 39 #[.int .u8 27, .bool false, .int .u64 a, .int .u64 b] w fun e w' => e = .returned (.tuple #[.bool (isV .u64 .i64 27 a b), .int .i64 0]) ∧ w = w' := by
  have HE : Hid (((gather (fun j => eachBit 6 (a.testBit j) (b.testBit j)) 64 : Nat) : Int) = bits BinOp.and .u64 a b) := Lib.hid (by rw [each_and a b (by omega) (by omega), u64_and_nat a b (by omega) (by omega)])
  go_enter Try.func39, Try.ntmps39
  go_wp2_with fail
  refine (each_any 6 a b _ (by omega) (by omega) (by omega)).mono ?_
  rintro e w1 ⟨rfl, rfl⟩
  go_wp2_with fail
  go_ret2
  refine ⟨?_, rfl⟩
  show _ = Ending.returned (.tuple #[.bool (bits BinOp.and .u64 a b != 0), .int .i64 0])
  rw [← HE.out]
  rfl

theorem ris_w_no (op : Int) (a b : Nat) (w : World) (ha : a < 18446744073709551616) (hb : b < 18446744073709551616) (hlo : op < 17 ∨ 27 < op) (h17 : (op == 17) = false) (h18 : (op == 18) = false) (h19 : (op == 19) = false) (h20 : (op == 20) = false) (h21 : (op == 21) = false) (h22 : (op == 22) = false) (h23 : (op == 23) = false) (h24 : (op == 24) = false) (h25 : (op == 25) = false) (h26 : (op == 26) = false) (h27 : (op == 27) = false) :
    Calls Try.prog 39 #[.int .u8 op, .bool false, .int .u64 a, .int .u64 b] w fun e w' => e = .returned (.tuple #[.bool false, .int .i64 2]) ∧ w = w' := by
  rcases hlo with hlo | hlo
  · have hd : decide (23 ≤ op) = false := decide_eq_false (by omega)
    go_enter Try.func39, Try.ntmps39
    go_wp2_with fail
    go_ret2
    exact ⟨rfl, rfl⟩
  · have hd : decide (23 ≤ op) = true := decide_eq_true (by omega)
    have hd2 : decide (op ≤ 26) = false := decide_eq_false (by omega)
    go_enter Try.func39, Try.ntmps39
    go_wp2_with fail
    go_ret2
    exact ⟨rfl, rfl⟩

theorem ris_n_17 (a b A B : Nat) (w : World) (ha : a < 18446744073709551616) (hb : b < 18446744073709551616) (hA : bits BinOp.and .u64 (a : Int) 4294967295 = (A : Int)) (hA2 : A < 4294967296) (hB : bits BinOp.and .u64 (b : Int) 4294967295 = (B : Int)) (hB2 : B < 4294967296) :
    Calls Try.prog 39 #[.int .u8 17, .bool true, .int .u64 a, .int .u64 b] w fun e w' => e = .returned (.tuple #[.bool (isV .u32 .i32 17 A B), .int .i64 0]) ∧ w = w' := by
  go_enter Try.func39, Try.ntmps39
  go_wp2_with fail
  go_ret2
  exact ⟨rfl, rfl⟩

theorem ris_n_18 (a b A B : Nat) (w : World) (ha : a < 18446744073709551616) (hb : b < 18446744073709551616) (hA : bits BinOp.and .u64 (a : Int) 4294967295 = (A : Int)) (hA2 : A < 4294967296) (hB : bits BinOp.and .u64 (b : Int) 4294967295 = (B : Int)) (hB2 : B < 4294967296) :
    Calls Try.prog 39 #[.int .u8 18, .bool true, .int .u64 a, .int .u64 b] w fun e w' => e = .returned (.tuple #[.bool (isV .u32 .i32 18 A B), .int .i64 0]) ∧ w = w' := by
  go_enter Try.func39, Try.ntmps39
  go_wp2_with fail
  go_ret2
  exact ⟨rfl, rfl⟩

theorem ris_n_19 (a b A B : Nat) (w : World) (ha : a < 18446744073709551616) (hb : b < 18446744073709551616) (hA : bits BinOp.and .u64 (a : Int) 4294967295 = (A : Int)) (hA2 : A < 4294967296) (hB : bits BinOp.and .u64 (b : Int) 4294967295 = (B : Int)) (hB2 : B < 4294967296) :
    Calls Try.prog 39 #[.int .u8 19, .bool true, .int .u64 a, .int .u64 b] w fun e w' => e = .returned (.tuple #[.bool (isV .u32 .i32 19 A B), .int .i64 0]) ∧ w = w' := by
  have HE : Hid (decide (B < A) = decide ((B : Int) < (A : Int))) := Lib.hid (by rw [Bool.eq_iff_iff]; simp)
  go_enter Try.func39, Try.ntmps39
  go_wp2_with fail
  go_ret2
  refine ⟨?_, rfl⟩
  show _ = Ending.returned (.tuple #[.bool (decide ((B : Int) < (A : Int))), .int .i64 0])
  rw [← HE.out]
  rfl

theorem ris_n_20 (a b A B : Nat) (w : World) (ha : a < 18446744073709551616) (hb : b < 18446744073709551616) (hA : bits BinOp.and .u64 (a : Int) 4294967295 = (A : Int)) (hA2 : A < 4294967296) (hB : bits BinOp.and .u64 (b : Int) 4294967295 = (B : Int)) (hB2 : B < 4294967296) :
    Calls Try.prog 39 #[.int .u8 20, .bool true, .int .u64 a, .int .u64 b] w fun e w' => e = .returned (.tuple #[.bool (isV .u32 .i32 20 A B), .int .i64 0]) ∧ w = w' := by
  have HE : Hid (decide (B ≤ A) = decide ((B : Int) ≤ (A : Int))) := Lib.hid (by rw [Bool.eq_iff_iff]; simp)
  go_enter Try.func39, Try.ntmps39
  go_wp2_with fail
  go_ret2
  refine ⟨?_, rfl⟩
  show _ = Ending.returned (.tuple #[.bool (decide ((B : Int) ≤ (A : Int))), .int .i64 0])
  rw [← HE.out]
  rfl

theorem ris_n_21 (a b A B : Nat) (w : World) (ha : a < 18446744073709551616) (hb : b < 18446744073709551616) (hA : bits BinOp.and .u64 (a : Int) 4294967295 = (A : Int)) (hA2 : A < 4294967296) (hB : bits BinOp.and .u64 (b : Int) 4294967295 = (B : Int)) (hB2 : B < 4294967296) :
    Calls Try.prog 39 #[.int .u8 21, .bool true, .int .u64 a, .int .u64 b] w fun e w' => e = .returned (.tuple #[.bool (isV .u32 .i32 21 A B), .int .i64 0]) ∧ w = w' := by
  have HE : Hid (decide (A < B) = decide ((A : Int) < (B : Int))) := Lib.hid (by rw [Bool.eq_iff_iff]; simp)
  go_enter Try.func39, Try.ntmps39
  go_wp2_with fail
  go_ret2
  refine ⟨?_, rfl⟩
  show _ = Ending.returned (.tuple #[.bool (decide ((A : Int) < (B : Int))), .int .i64 0])
  rw [← HE.out]
  rfl

theorem ris_n_22 (a b A B : Nat) (w : World) (ha : a < 18446744073709551616) (hb : b < 18446744073709551616) (hA : bits BinOp.and .u64 (a : Int) 4294967295 = (A : Int)) (hA2 : A < 4294967296) (hB : bits BinOp.and .u64 (b : Int) 4294967295 = (B : Int)) (hB2 : B < 4294967296) :
    Calls Try.prog 39 #[.int .u8 22, .bool true, .int .u64 a, .int .u64 b] w fun e w' => e = .returned (.tuple #[.bool (isV .u32 .i32 22 A B), .int .i64 0]) ∧ w = w' := by
  have HE : Hid (decide (A ≤ B) = decide ((A : Int) ≤ (B : Int))) := Lib.hid (by rw [Bool.eq_iff_iff]; simp)
  go_enter Try.func39, Try.ntmps39
  go_wp2_with fail
  go_ret2
  refine ⟨?_, rfl⟩
  show _ = Ending.returned (.tuple #[.bool (decide ((A : Int) ≤ (B : Int))), .int .i64 0])
  rw [← HE.out]
  rfl

theorem ris_n_23 (a b A B : Nat) (w : World) (ha : a < 18446744073709551616) (hb : b < 18446744073709551616) (hA : bits BinOp.and .u64 (a : Int) 4294967295 = (A : Int)) (hA2 : A < 4294967296) (hB : bits BinOp.and .u64 (b : Int) 4294967295 = (B : Int)) (hB2 : B < 4294967296) :
    Calls Try.prog 39 #[.int .u8 23, .bool true, .int .u64 a, .int .u64 b] w fun e w' => e = .returned (.tuple #[.bool (isV .u32 .i32 23 A B), .int .i64 0]) ∧ w = w' := by
  have HE : Hid (decide (bits BinOp.xor .u64 (B : Int) 2147483648 < bits BinOp.xor .u64 (A : Int) 2147483648) = decide (IntKind.i32.wrap (B : Int) < IntKind.i32.wrap (A : Int))) := Lib.hid (by rw [xor_n A hA2, xor_n B hB2]; exact dec_lt _ _ _)
  go_enter Try.func39, Try.ntmps39
  go_wp2_with fail
  go_ret2
  refine ⟨?_, rfl⟩
  show _ = Ending.returned (.tuple #[.bool (decide (IntKind.i32.wrap (B : Int) < IntKind.i32.wrap (A : Int))), .int .i64 0])
  rw [← HE.out]
  rfl

theorem ris_n_24 (a b A B : Nat) (w : World) (ha : a < 18446744073709551616) (hb : b < 18446744073709551616) (hA : bits BinOp.and .u64 (a : Int) 4294967295 = (A : Int)) (hA2 : A < 4294967296) (hB : bits BinOp.and .u64 (b : Int) 4294967295 = (B : Int)) (hB2 : B < 4294967296) :
    Calls Try.prog 39 #[.int .u8 24, .bool true, .int .u64 a, .int .u64 b] w fun e w' => e = .returned (.tuple #[.bool (isV .u32 .i32 24 A B), .int .i64 0]) ∧ w = w' := by
  have HE : Hid (decide (bits BinOp.xor .u64 (B : Int) 2147483648 ≤ bits BinOp.xor .u64 (A : Int) 2147483648) = decide (IntKind.i32.wrap (B : Int) ≤ IntKind.i32.wrap (A : Int))) := Lib.hid (by rw [xor_n A hA2, xor_n B hB2]; exact dec_le _ _ _)
  go_enter Try.func39, Try.ntmps39
  go_wp2_with fail
  go_ret2
  refine ⟨?_, rfl⟩
  show _ = Ending.returned (.tuple #[.bool (decide (IntKind.i32.wrap (B : Int) ≤ IntKind.i32.wrap (A : Int))), .int .i64 0])
  rw [← HE.out]
  rfl

theorem ris_n_25 (a b A B : Nat) (w : World) (ha : a < 18446744073709551616) (hb : b < 18446744073709551616) (hA : bits BinOp.and .u64 (a : Int) 4294967295 = (A : Int)) (hA2 : A < 4294967296) (hB : bits BinOp.and .u64 (b : Int) 4294967295 = (B : Int)) (hB2 : B < 4294967296) :
    Calls Try.prog 39 #[.int .u8 25, .bool true, .int .u64 a, .int .u64 b] w fun e w' => e = .returned (.tuple #[.bool (isV .u32 .i32 25 A B), .int .i64 0]) ∧ w = w' := by
  have HE : Hid (decide (bits BinOp.xor .u64 (A : Int) 2147483648 < bits BinOp.xor .u64 (B : Int) 2147483648) = decide (IntKind.i32.wrap (A : Int) < IntKind.i32.wrap (B : Int))) := Lib.hid (by rw [xor_n A hA2, xor_n B hB2]; exact dec_lt _ _ _)
  go_enter Try.func39, Try.ntmps39
  go_wp2_with fail
  go_ret2
  refine ⟨?_, rfl⟩
  show _ = Ending.returned (.tuple #[.bool (decide (IntKind.i32.wrap (A : Int) < IntKind.i32.wrap (B : Int))), .int .i64 0])
  rw [← HE.out]
  rfl

theorem ris_n_26 (a b A B : Nat) (w : World) (ha : a < 18446744073709551616) (hb : b < 18446744073709551616) (hA : bits BinOp.and .u64 (a : Int) 4294967295 = (A : Int)) (hA2 : A < 4294967296) (hB : bits BinOp.and .u64 (b : Int) 4294967295 = (B : Int)) (hB2 : B < 4294967296) :
    Calls Try.prog 39 #[.int .u8 26, .bool true, .int .u64 a, .int .u64 b] w fun e w' => e = .returned (.tuple #[.bool (isV .u32 .i32 26 A B), .int .i64 0]) ∧ w = w' := by
  have HE : Hid (decide (bits BinOp.xor .u64 (A : Int) 2147483648 ≤ bits BinOp.xor .u64 (B : Int) 2147483648) = decide (IntKind.i32.wrap (A : Int) ≤ IntKind.i32.wrap (B : Int))) := Lib.hid (by rw [xor_n A hA2, xor_n B hB2]; exact dec_le _ _ _)
  go_enter Try.func39, Try.ntmps39
  go_wp2_with fail
  go_ret2
  refine ⟨?_, rfl⟩
  show _ = Ending.returned (.tuple #[.bool (decide (IntKind.i32.wrap (A : Int) ≤ IntKind.i32.wrap (B : Int))), .int .i64 0])
  rw [← HE.out]
  rfl

theorem ris_n_27 (a b A B : Nat) (w : World) (ha : a < 18446744073709551616) (hb : b < 18446744073709551616) (hA : bits BinOp.and .u64 (a : Int) 4294967295 = (A : Int)) (hA2 : A < 4294967296) (hB : bits BinOp.and .u64 (b : Int) 4294967295 = (B : Int)) (hB2 : B < 4294967296) :
    Calls Try.prog 39 #[.int .u8 27, .bool true, .int .u64 a, .int .u64 b] w fun e w' => e = .returned (.tuple #[.bool (isV .u32 .i32 27 A B), .int .i64 0]) ∧ w = w' := by
  have HE : Hid (((gather (fun j => eachBit 6 (A.testBit j) (B.testBit j)) 64 : Nat) : Int) = bits BinOp.and .u32 A B) := Lib.hid (by rw [each_and A B (by omega) (by omega), u32_and_nat A B (by omega) (by omega)])
  go_enter Try.func39, Try.ntmps39
  go_wp2_with fail
  refine (each_any 6 A B _ (by omega) (by omega) (by omega)).mono ?_
  rintro e w1 ⟨rfl, rfl⟩
  go_wp2_with fail
  go_ret2
  refine ⟨?_, rfl⟩
  show _ = Ending.returned (.tuple #[.bool (bits BinOp.and .u32 A B != 0), .int .i64 0])
  rw [← HE.out]
  rfl

theorem ris_n_no (op : Int) (a b A B : Nat) (w : World) (ha : a < 18446744073709551616) (hb : b < 18446744073709551616) (hA : bits BinOp.and .u64 (a : Int) 4294967295 = (A : Int)) (hA2 : A < 4294967296) (hB : bits BinOp.and .u64 (b : Int) 4294967295 = (B : Int)) (hB2 : B < 4294967296) (hlo : op < 17 ∨ 27 < op) (h17 : (op == 17) = false) (h18 : (op == 18) = false) (h19 : (op == 19) = false) (h20 : (op == 20) = false) (h21 : (op == 21) = false) (h22 : (op == 22) = false) (h23 : (op == 23) = false) (h24 : (op == 24) = false) (h25 : (op == 25) = false) (h26 : (op == 26) = false) (h27 : (op == 27) = false) :
    Calls Try.prog 39 #[.int .u8 op, .bool true, .int .u64 a, .int .u64 b] w fun e w' => e = .returned (.tuple #[.bool false, .int .i64 2]) ∧ w = w' := by
  rcases hlo with hlo | hlo
  · have hd : decide (23 ≤ op) = false := decide_eq_false (by omega)
    go_enter Try.func39, Try.ntmps39
    go_wp2_with fail
    go_ret2
    exact ⟨rfl, rfl⟩
  · have hd : decide (23 ≤ op) = true := decide_eq_true (by omega)
    have hd2 : decide (op ≤ 26) = false := decide_eq_false (by omega)
    go_enter Try.func39, Try.ntmps39
    go_wp2_with fail
    go_ret2
    exact ⟨rfl, rfl⟩

end Go.Proofs.Ytbfegghkipoppaa
namespace Go.Proofs.Ytbfegghkipoppaa
set_option maxRecDepth 100000
open Go.RowKit
set_option linter.unusedVariables false

theorem low_ex (a : Nat) (ha : a < 18446744073709551616) : bits BinOp.and .u64 (a : Int) 4294967295 = ((a % 4294967296 : Nat) : Int) := by
  rw [low_eq _ (by omega) (by omega)]; simp
theorem low_cast (a : Nat) : ((a : Int) % 4294967296) = ((a % 4294967296 : Nat) : Int) := by simp

theorem drew_of {P : Program} {f : FuncId} {args : Array Value} {w : World} {v : Value} (h : Calls P f args w fun e w' => e = .returned v ∧ w = w') :
    Calls P f args w fun e w' => e = .returned v ∧ ∃ n, w' = w.drewN n := h.mono fun _ _ h => ⟨h.1, 0, h.2.symm⟩

theorem rDo_w (op : Int) (a b : Nat) (w : World) (ha : a < 18446744073709551616) (hb : b < 18446744073709551616) :
    Calls Try.prog 35 #[.int .u8 op, .bool false, .int .u64 a, .int .u64 b] w fun e w' => e = .returned (.tuple #[.int .u64 (dVal .u64 .i64 64 op (a : Int) (b : Int)), .int .i64 (dErr op (b : Int))]) ∧ ∃ n, w' = w.drewN n := by
  by_cases h : 1 ≤ op ∧ op ≤ 13
  · have hc : op = 1 ∨ op = 2 ∨ op = 3 ∨ op = 4 ∨ op = 5 ∨ op = 6 ∨ op = 7 ∨ op = 8 ∨ op = 9 ∨ op = 10 ∨ op = 11 ∨ op = 12 ∨ op = 13 := by omega
    rcases hc with rfl | rfl | rfl | rfl | rfl | rfl | rfl | rfl | rfl | rfl | rfl | rfl | rfl
    · have e1 : dErr 1 (b : Int) = 0 := by unfold dErr; rw [if_pos (by omega), if_neg (by omega)]
      have e2 : dVal .u64 .i64 64 1 (a : Int) (b : Int) = opV .u64 .i64 64 1 (a : Int) (b : Int) := by unfold dVal; rw [e1]; simp
      rw [e1, e2]
      exact drew_of (rdo_w_1 a b w ha hb)
    · have e1 : dErr 2 (b : Int) = 0 := by unfold dErr; rw [if_pos (by omega), if_neg (by omega)]
      have e2 : dVal .u64 .i64 64 2 (a : Int) (b : Int) = opV .u64 .i64 64 2 (a : Int) (b : Int) := by unfold dVal; rw [e1]; simp
      rw [e1, e2]
      exact drew_of (rdo_w_2 a b w ha hb)
    · have e1 : dErr 3 (b : Int) = 0 := by unfold dErr; rw [if_pos (by omega), if_neg (by omega)]
      have e2 : dVal .u64 .i64 64 3 (a : Int) (b : Int) = opV .u64 .i64 64 3 (a : Int) (b : Int) := by unfold dVal; rw [e1]; simp
      rw [e1, e2]
      exact drew_of (rdo_w_3 a b w ha hb)
    · by_cases hz : b = 0
      · have e1 : dErr 4 (b : Int) = 113 := by rw [hz]; decide
        have e2 : dVal .u64 .i64 64 4 (a : Int) (b : Int) = 0 := by unfold dVal; rw [e1]; simp
        rw [e1, e2]
        exact drew_of (rdo_w_z4 a b w ha hb hz)
      · have e1 : dErr 4 (b : Int) = 0 := by
          have h0 : ¬ (b : Int) = 0 := by omega
          unfold dErr; rw [if_pos (by omega), if_neg (fun h => h0 h.2)]
        have e2 : dVal .u64 .i64 64 4 (a : Int) (b : Int) = opV .u64 .i64 64 4 (a : Int) (b : Int) := by unfold dVal; rw [e1]; simp
        rw [e1, e2]
        exact drew_of (rdo_w_4 a b w ha hb (by omega))
    · by_cases hz : b = 0
      · have e1 : dErr 5 (b : Int) = 113 := by rw [hz]; decide
        have e2 : dVal .u64 .i64 64 5 (a : Int) (b : Int) = 0 := by unfold dVal; rw [e1]; simp
        rw [e1, e2]
        exact drew_of (rdo_w_z5 a b w ha hb hz)
      · have e1 : dErr 5 (b : Int) = 0 := by
          have h0 : ¬ (b : Int) = 0 := by omega
          unfold dErr; rw [if_pos (by omega), if_neg (fun h => h0 h.2)]
        have e2 : dVal .u64 .i64 64 5 (a : Int) (b : Int) = opV .u64 .i64 64 5 (a : Int) (b : Int) := by unfold dVal; rw [e1]; simp
        rw [e1, e2]
        exact drew_of (rdo_w_5 a b w ha hb (by omega))
    · have e1 : dErr 6 (b : Int) = 0 := by unfold dErr; rw [if_pos (by omega), if_neg (by omega)]
      have e2 : dVal .u64 .i64 64 6 (a : Int) (b : Int) = opV .u64 .i64 64 6 (a : Int) (b : Int) := by unfold dVal; rw [e1]; simp
      rw [e1, e2]
      exact drew_of (rdo_w_6 a b w ha hb)
    · have e1 : dErr 7 (b : Int) = 0 := by unfold dErr; rw [if_pos (by omega), if_neg (by omega)]
      have e2 : dVal .u64 .i64 64 7 (a : Int) (b : Int) = opV .u64 .i64 64 7 (a : Int) (b : Int) := by unfold dVal; rw [e1]; simp
      rw [e1, e2]
      exact drew_of (rdo_w_7 a b w ha hb)
    · have e1 : dErr 8 (b : Int) = 0 := by unfold dErr; rw [if_pos (by omega), if_neg (by omega)]
      have e2 : dVal .u64 .i64 64 8 (a : Int) (b : Int) = opV .u64 .i64 64 8 (a : Int) (b : Int) := by unfold dVal; rw [e1]; simp
      rw [e1, e2]
      exact drew_of (rdo_w_8 a b w ha hb)
    · have e1 : dErr 9 (b : Int) = 0 := by unfold dErr; rw [if_pos (by omega), if_neg (by omega)]
      have e2 : dVal .u64 .i64 64 9 (a : Int) (b : Int) = opV .u64 .i64 64 9 (a : Int) (b : Int) := by unfold dVal; rw [e1]; simp
      rw [e1, e2]
      exact drew_of (rdo_w_9 a b w ha hb)
    · have e1 : dErr 10 (b : Int) = 0 := by unfold dErr; rw [if_pos (by omega), if_neg (by omega)]
      have e2 : dVal .u64 .i64 64 10 (a : Int) (b : Int) = opV .u64 .i64 64 10 (a : Int) (b : Int) := by unfold dVal; rw [e1]; simp
      rw [e1, e2]
      exact drew_of (rdo_w_10 a b w ha hb)
    · have e1 : dErr 11 (b : Int) = 0 := by unfold dErr; rw [if_pos (by omega), if_neg (by omega)]
      have e2 : dVal .u64 .i64 64 11 (a : Int) (b : Int) = opV .u64 .i64 64 11 (a : Int) (b : Int) := by unfold dVal; rw [e1]; simp
      rw [e1, e2]
      exact (rdo_w_11 a b w ha hb).mono fun _ _ h => ⟨h.1, let ⟨n, e⟩ := h.2; ⟨n, e.symm⟩⟩
    · have e1 : dErr 12 (b : Int) = 0 := by unfold dErr; rw [if_pos (by omega), if_neg (by omega)]
      have e2 : dVal .u64 .i64 64 12 (a : Int) (b : Int) = opV .u64 .i64 64 12 (a : Int) (b : Int) := by unfold dVal; rw [e1]; simp
      rw [e1, e2]
      exact drew_of (rdo_w_12 a b w ha hb)
    · have e1 : dErr 13 (b : Int) = 0 := by unfold dErr; rw [if_pos (by omega), if_neg (by omega)]
      have e2 : dVal .u64 .i64 64 13 (a : Int) (b : Int) = opV .u64 .i64 64 13 (a : Int) (b : Int) := by unfold dVal; rw [e1]; simp
      rw [e1, e2]
      exact drew_of (rdo_w_13 a b w ha hb)
  · have e1 : dErr op (b : Int) = 2 := by unfold dErr; rw [if_neg h]
    have e2 : dVal .u64 .i64 64 op (a : Int) (b : Int) = 0 := by unfold dVal; rw [e1]; simp
    rw [e1, e2]
    exact drew_of (rdo_w_no op a b w ha hb (beq_eq_false_iff_ne.2 (by omega)) (beq_eq_false_iff_ne.2 (by omega)) (beq_eq_false_iff_ne.2 (by omega)) (beq_eq_false_iff_ne.2 (by omega)) (beq_eq_false_iff_ne.2 (by omega)) (beq_eq_false_iff_ne.2 (by omega)) (beq_eq_false_iff_ne.2 (by omega)) (beq_eq_false_iff_ne.2 (by omega)) (beq_eq_false_iff_ne.2 (by omega)) (beq_eq_false_iff_ne.2 (by omega)) (beq_eq_false_iff_ne.2 (by omega)) (beq_eq_false_iff_ne.2 (by omega)) (beq_eq_false_iff_ne.2 (by omega)))

theorem rIs_w (op : Int) (a b : Nat) (w : World) (h0 : 0 ≤ op) (ha : a < 18446744073709551616) (hb : b < 18446744073709551616) :
    Calls Try.prog 39 #[.int .u8 op, .bool false, .int .u64 a, .int .u64 b] w fun e w' => e = .returned (.tuple #[.bool (isV .u64 .i64 op.toNat (a : Int) (b : Int)), .int .i64 (isE op)]) ∧ w = w' := by
  by_cases h : 17 ≤ op ∧ op ≤ 27
  · have hc : op = 17 ∨ op = 18 ∨ op = 19 ∨ op = 20 ∨ op = 21 ∨ op = 22 ∨ op = 23 ∨ op = 24 ∨ op = 25 ∨ op = 26 ∨ op = 27 := by omega
    rcases hc with rfl | rfl | rfl | rfl | rfl | rfl | rfl | rfl | rfl | rfl | rfl
    · rw [show isE 17 = 0 by decide]
      exact ris_w_17 a b w ha hb
    · rw [show isE 18 = 0 by decide]
      exact ris_w_18 a b w ha hb
    · rw [show isE 19 = 0 by decide]
      exact ris_w_19 a b w ha hb
    · rw [show isE 20 = 0 by decide]
      exact ris_w_20 a b w ha hb
    · rw [show isE 21 = 0 by decide]
      exact ris_w_21 a b w ha hb
    · rw [show isE 22 = 0 by decide]
      exact ris_w_22 a b w ha hb
    · rw [show isE 23 = 0 by decide]
      exact ris_w_23 a b w ha hb
    · rw [show isE 24 = 0 by decide]
      exact ris_w_24 a b w ha hb
    · rw [show isE 25 = 0 by decide]
      exact ris_w_25 a b w ha hb
    · rw [show isE 26 = 0 by decide]
      exact ris_w_26 a b w ha hb
    · rw [show isE 27 = 0 by decide]
      exact ris_w_27 a b w ha hb
  · have e1 : isE op = 2 := by simp [isE, h]
    have e2 : isV .u64 .i64 op.toNat (a : Int) (b : Int) = false := by
      obtain ⟨n, rfl⟩ := Int.eq_ofNat_of_zero_le h0
      unfold isV
      split <;> first | rfl | (exfalso; simp_all)
    rw [e1, e2]
    exact ris_w_no op a b w ha hb (by omega) (beq_eq_false_iff_ne.2 (by omega)) (beq_eq_false_iff_ne.2 (by omega)) (beq_eq_false_iff_ne.2 (by omega)) (beq_eq_false_iff_ne.2 (by omega)) (beq_eq_false_iff_ne.2 (by omega)) (beq_eq_false_iff_ne.2 (by omega)) (beq_eq_false_iff_ne.2 (by omega)) (beq_eq_false_iff_ne.2 (by omega)) (beq_eq_false_iff_ne.2 (by omega)) (beq_eq_false_iff_ne.2 (by omega)) (beq_eq_false_iff_ne.2 (by omega))

theorem rDo_n (op : Int) (a b : Nat) (w : World) (ha : a < 18446744073709551616) (hb : b < 18446744073709551616) :
    Calls Try.prog 35 #[.int .u8 op, .bool true, .int .u64 a, .int .u64 b] w fun e w' => e = .returned (.tuple #[.int .u64 (dVal .u32 .i32 32 op ((a % 4294967296 : Nat) : Int) ((b % 4294967296 : Nat) : Int)), .int .i64 (dErr op ((b % 4294967296 : Nat) : Int))]) ∧ ∃ n, w' = w.drewN n := by
  by_cases h : 1 ≤ op ∧ op ≤ 13
  · have hc : op = 1 ∨ op = 2 ∨ op = 3 ∨ op = 4 ∨ op = 5 ∨ op = 6 ∨ op = 7 ∨ op = 8 ∨ op = 9 ∨ op = 10 ∨ op = 11 ∨ op = 12 ∨ op = 13 := by omega
    rcases hc with rfl | rfl | rfl | rfl | rfl | rfl | rfl | rfl | rfl | rfl | rfl | rfl | rfl
    · have e1 : dErr 1 ((b % 4294967296 : Nat) : Int) = 0 := by unfold dErr; rw [if_pos (by omega), if_neg (by omega)]
      have e2 : dVal .u32 .i32 32 1 ((a % 4294967296 : Nat) : Int) ((b % 4294967296 : Nat) : Int) = opV .u32 .i32 32 1 ((a % 4294967296 : Nat) : Int) ((b % 4294967296 : Nat) : Int) := by unfold dVal; rw [e1]; simp
      rw [e1, e2]
      exact drew_of (rdo_n_1 a b (a % 4294967296) (b % 4294967296) w ha hb (low_ex a ha) (Nat.mod_lt _ (by omega)) (low_ex b hb) (Nat.mod_lt _ (by omega)))
    · have e1 : dErr 2 ((b % 4294967296 : Nat) : Int) = 0 := by unfold dErr; rw [if_pos (by omega), if_neg (by omega)]
      have e2 : dVal .u32 .i32 32 2 ((a % 4294967296 : Nat) : Int) ((b % 4294967296 : Nat) : Int) = opV .u32 .i32 32 2 ((a % 4294967296 : Nat) : Int) ((b % 4294967296 : Nat) : Int) := by unfold dVal; rw [e1]; simp
      rw [e1, e2]
      exact drew_of (rdo_n_2 a b (a % 4294967296) (b % 4294967296) w ha hb (low_ex a ha) (Nat.mod_lt _ (by omega)) (low_ex b hb) (Nat.mod_lt _ (by omega)))
    · have e1 : dErr 3 ((b % 4294967296 : Nat) : Int) = 0 := by unfold dErr; rw [if_pos (by omega), if_neg (by omega)]
      have e2 : dVal .u32 .i32 32 3 ((a % 4294967296 : Nat) : Int) ((b % 4294967296 : Nat) : Int) = opV .u32 .i32 32 3 ((a % 4294967296 : Nat) : Int) ((b % 4294967296 : Nat) : Int) := by unfold dVal; rw [e1]; simp
      rw [e1, e2]
      exact drew_of (rdo_n_3 a b (a % 4294967296) (b % 4294967296) w ha hb (low_ex a ha) (Nat.mod_lt _ (by omega)) (low_ex b hb) (Nat.mod_lt _ (by omega)))
    · by_cases hz : (b % 4294967296) = 0
      · have e1 : dErr 4 ((b % 4294967296 : Nat) : Int) = 113 := by rw [hz]; decide
        have e2 : dVal .u32 .i32 32 4 ((a % 4294967296 : Nat) : Int) ((b % 4294967296 : Nat) : Int) = 0 := by unfold dVal; rw [e1]; simp
        rw [e1, e2]
        exact drew_of (rdo_n_z4 a b (a % 4294967296) (b % 4294967296) w ha hb (low_ex a ha) (Nat.mod_lt _ (by omega)) (low_ex b hb) (Nat.mod_lt _ (by omega)) hz)
      · have e1 : dErr 4 ((b % 4294967296 : Nat) : Int) = 0 := by
          have h0 : ¬ ((b % 4294967296 : Nat) : Int) = 0 := by omega
          unfold dErr; rw [if_pos (by omega), if_neg (fun h => h0 h.2)]
        have e2 : dVal .u32 .i32 32 4 ((a % 4294967296 : Nat) : Int) ((b % 4294967296 : Nat) : Int) = opV .u32 .i32 32 4 ((a % 4294967296 : Nat) : Int) ((b % 4294967296 : Nat) : Int) := by unfold dVal; rw [e1]; simp
        rw [e1, e2]
        exact drew_of (rdo_n_4 a b (a % 4294967296) (b % 4294967296) w ha hb (low_ex a ha) (Nat.mod_lt _ (by omega)) (low_ex b hb) (Nat.mod_lt _ (by omega)) (by omega))
    · by_cases hz : (b % 4294967296) = 0
      · have e1 : dErr 5 ((b % 4294967296 : Nat) : Int) = 113 := by rw [hz]; decide
        have e2 : dVal .u32 .i32 32 5 ((a % 4294967296 : Nat) : Int) ((b % 4294967296 : Nat) : Int) = 0 := by unfold dVal; rw [e1]; simp
        rw [e1, e2]
        exact drew_of (rdo_n_z5 a b (a % 4294967296) (b % 4294967296) w ha hb (low_ex a ha) (Nat.mod_lt _ (by omega)) (low_ex b hb) (Nat.mod_lt _ (by omega)) hz)
      · have e1 : dErr 5 ((b % 4294967296 : Nat) : Int) = 0 := by
          have h0 : ¬ ((b % 4294967296 : Nat) : Int) = 0 := by omega
          unfold dErr; rw [if_pos (by omega), if_neg (fun h => h0 h.2)]
        have e2 : dVal .u32 .i32 32 5 ((a % 4294967296 : Nat) : Int) ((b % 4294967296 : Nat) : Int) = opV .u32 .i32 32 5 ((a % 4294967296 : Nat) : Int) ((b % 4294967296 : Nat) : Int) := by unfold dVal; rw [e1]; simp
        rw [e1, e2]
        exact drew_of (rdo_n_5 a b (a % 4294967296) (b % 4294967296) w ha hb (low_ex a ha) (Nat.mod_lt _ (by omega)) (low_ex b hb) (Nat.mod_lt _ (by omega)) (by omega))
    · have e1 : dErr 6 ((b % 4294967296 : Nat) : Int) = 0 := by unfold dErr; rw [if_pos (by omega), if_neg (by omega)]
      have e2 : dVal .u32 .i32 32 6 ((a % 4294967296 : Nat) : Int) ((b % 4294967296 : Nat) : Int) = opV .u32 .i32 32 6 ((a % 4294967296 : Nat) : Int) ((b % 4294967296 : Nat) : Int) := by unfold dVal; rw [e1]; simp
      rw [e1, e2]
      exact drew_of (rdo_n_6 a b (a % 4294967296) (b % 4294967296) w ha hb (low_ex a ha) (Nat.mod_lt _ (by omega)) (low_ex b hb) (Nat.mod_lt _ (by omega)))
    · have e1 : dErr 7 ((b % 4294967296 : Nat) : Int) = 0 := by unfold dErr; rw [if_pos (by omega), if_neg (by omega)]
      have e2 : dVal .u32 .i32 32 7 ((a % 4294967296 : Nat) : Int) ((b % 4294967296 : Nat) : Int) = opV .u32 .i32 32 7 ((a % 4294967296 : Nat) : Int) ((b % 4294967296 : Nat) : Int) := by unfold dVal; rw [e1]; simp
      rw [e1, e2]
      exact drew_of (rdo_n_7 a b (a % 4294967296) (b % 4294967296) w ha hb (low_ex a ha) (Nat.mod_lt _ (by omega)) (low_ex b hb) (Nat.mod_lt _ (by omega)))
    · have e1 : dErr 8 ((b % 4294967296 : Nat) : Int) = 0 := by unfold dErr; rw [if_pos (by omega), if_neg (by omega)]
      have e2 : dVal .u32 .i32 32 8 ((a % 4294967296 : Nat) : Int) ((b % 4294967296 : Nat) : Int) = opV .u32 .i32 32 8 ((a % 4294967296 : Nat) : Int) ((b % 4294967296 : Nat) : Int) := by unfold dVal; rw [e1]; simp
      rw [e1, e2]
      exact drew_of (rdo_n_8 a b (a % 4294967296) (b % 4294967296) w ha hb (low_ex a ha) (Nat.mod_lt _ (by omega)) (low_ex b hb) (Nat.mod_lt _ (by omega)))
    · have e1 : dErr 9 ((b % 4294967296 : Nat) : Int) = 0 := by unfold dErr; rw [if_pos (by omega), if_neg (by omega)]
      have e2 : dVal .u32 .i32 32 9 ((a % 4294967296 : Nat) : Int) ((b % 4294967296 : Nat) : Int) = opV .u32 .i32 32 9 ((a % 4294967296 : Nat) : Int) ((b % 4294967296 : Nat) : Int) := by unfold dVal; rw [e1]; simp
      rw [e1, e2]
      exact drew_of (rdo_n_9 a b (a % 4294967296) (b % 4294967296) w ha hb (low_ex a ha) (Nat.mod_lt _ (by omega)) (low_ex b hb) (Nat.mod_lt _ (by omega)))
    · have e1 : dErr 10 ((b % 4294967296 : Nat) : Int) = 0 := by unfold dErr; rw [if_pos (by omega), if_neg (by omega)]
      have e2 : dVal .u32 .i32 32 10 ((a % 4294967296 : Nat) : Int) ((b % 4294967296 : Nat) : Int) = opV .u32 .i32 32 10 ((a % 4294967296 : Nat) : Int) ((b % 4294967296 : Nat) : Int) := by unfold dVal; rw [e1]; simp
      rw [e1, e2]
      exact drew_of (rdo_n_10 a b (a % 4294967296) (b % 4294967296) w ha hb (low_ex a ha) (Nat.mod_lt _ (by omega)) (low_ex b hb) (Nat.mod_lt _ (by omega)))
    · have e1 : dErr 11 ((b % 4294967296 : Nat) : Int) = 0 := by unfold dErr; rw [if_pos (by omega), if_neg (by omega)]
      have e2 : dVal .u32 .i32 32 11 ((a % 4294967296 : Nat) : Int) ((b % 4294967296 : Nat) : Int) = opV .u32 .i32 32 11 ((a % 4294967296 : Nat) : Int) ((b % 4294967296 : Nat) : Int) := by unfold dVal; rw [e1]; simp
      rw [e1, e2]
      exact (rdo_n_11 a b (a % 4294967296) (b % 4294967296) w ha hb (low_ex a ha) (Nat.mod_lt _ (by omega)) (low_ex b hb) (Nat.mod_lt _ (by omega))).mono fun _ _ h => ⟨h.1, let ⟨n, e⟩ := h.2; ⟨n, e.symm⟩⟩
    · have e1 : dErr 12 ((b % 4294967296 : Nat) : Int) = 0 := by unfold dErr; rw [if_pos (by omega), if_neg (by omega)]
      have e2 : dVal .u32 .i32 32 12 ((a % 4294967296 : Nat) : Int) ((b % 4294967296 : Nat) : Int) = opV .u32 .i32 32 12 ((a % 4294967296 : Nat) : Int) ((b % 4294967296 : Nat) : Int) := by unfold dVal; rw [e1]; simp
      rw [e1, e2]
      exact drew_of (rdo_n_12 a b (a % 4294967296) (b % 4294967296) w ha hb (low_ex a ha) (Nat.mod_lt _ (by omega)) (low_ex b hb) (Nat.mod_lt _ (by omega)))
    · have e1 : dErr 13 ((b % 4294967296 : Nat) : Int) = 0 := by unfold dErr; rw [if_pos (by omega), if_neg (by omega)]
      have e2 : dVal .u32 .i32 32 13 ((a % 4294967296 : Nat) : Int) ((b % 4294967296 : Nat) : Int) = opV .u32 .i32 32 13 ((a % 4294967296 : Nat) : Int) ((b % 4294967296 : Nat) : Int) := by unfold dVal; rw [e1]; simp
      rw [e1, e2]
      exact drew_of (rdo_n_13 a b (a % 4294967296) (b % 4294967296) w ha hb (low_ex a ha) (Nat.mod_lt _ (by omega)) (low_ex b hb) (Nat.mod_lt _ (by omega)))
  · have e1 : dErr op ((b % 4294967296 : Nat) : Int) = 2 := by unfold dErr; rw [if_neg h]
    have e2 : dVal .u32 .i32 32 op ((a % 4294967296 : Nat) : Int) ((b % 4294967296 : Nat) : Int) = 0 := by unfold dVal; rw [e1]; simp
    rw [e1, e2]
    exact drew_of (rdo_n_no op a b (a % 4294967296) (b % 4294967296) w ha hb (low_ex a ha) (Nat.mod_lt _ (by omega)) (low_ex b hb) (Nat.mod_lt _ (by omega)) (beq_eq_false_iff_ne.2 (by omega)) (beq_eq_false_iff_ne.2 (by omega)) (beq_eq_false_iff_ne.2 (by omega)) (beq_eq_false_iff_ne.2 (by omega)) (beq_eq_false_iff_ne.2 (by omega)) (beq_eq_false_iff_ne.2 (by omega)) (beq_eq_false_iff_ne.2 (by omega)) (beq_eq_false_iff_ne.2 (by omega)) (beq_eq_false_iff_ne.2 (by omega)) (beq_eq_false_iff_ne.2 (by omega)) (beq_eq_false_iff_ne.2 (by omega)) (beq_eq_false_iff_ne.2 (by omega)) (beq_eq_false_iff_ne.2 (by omega)))

theorem rIs_n (op : Int) (a b : Nat) (w : World) (h0 : 0 ≤ op) (ha : a < 18446744073709551616) (hb : b < 18446744073709551616) :
    Calls Try.prog 39 #[.int .u8 op, .bool true, .int .u64 a, .int .u64 b] w fun e w' => e = .returned (.tuple #[.bool (isV .u32 .i32 op.toNat ((a % 4294967296 : Nat) : Int) ((b % 4294967296 : Nat) : Int)), .int .i64 (isE op)]) ∧ w = w' := by
  by_cases h : 17 ≤ op ∧ op ≤ 27
  · have hc : op = 17 ∨ op = 18 ∨ op = 19 ∨ op = 20 ∨ op = 21 ∨ op = 22 ∨ op = 23 ∨ op = 24 ∨ op = 25 ∨ op = 26 ∨ op = 27 := by omega
    rcases hc with rfl | rfl | rfl | rfl | rfl | rfl | rfl | rfl | rfl | rfl | rfl
    · rw [show isE 17 = 0 by decide]
      exact ris_n_17 a b (a % 4294967296) (b % 4294967296) w ha hb (low_ex a ha) (Nat.mod_lt _ (by omega)) (low_ex b hb) (Nat.mod_lt _ (by omega))
    · rw [show isE 18 = 0 by decide]
      exact ris_n_18 a b (a % 4294967296) (b % 4294967296) w ha hb (low_ex a ha) (Nat.mod_lt _ (by omega)) (low_ex b hb) (Nat.mod_lt _ (by omega))
    · rw [show isE 19 = 0 by decide]
      exact ris_n_19 a b (a % 4294967296) (b % 4294967296) w ha hb (low_ex a ha) (Nat.mod_lt _ (by omega)) (low_ex b hb) (Nat.mod_lt _ (by omega))
    · rw [show isE 20 = 0 by decide]
      exact ris_n_20 a b (a % 4294967296) (b % 4294967296) w ha hb (low_ex a ha) (Nat.mod_lt _ (by omega)) (low_ex b hb) (Nat.mod_lt _ (by omega))
    · rw [show isE 21 = 0 by decide]
      exact ris_n_21 a b (a % 4294967296) (b % 4294967296) w ha hb (low_ex a ha) (Nat.mod_lt _ (by omega)) (low_ex b hb) (Nat.mod_lt _ (by omega))
    · rw [show isE 22 = 0 by decide]
      exact ris_n_22 a b (a % 4294967296) (b % 4294967296) w ha hb (low_ex a ha) (Nat.mod_lt _ (by omega)) (low_ex b hb) (Nat.mod_lt _ (by omega))
    · rw [show isE 23 = 0 by decide]
      exact ris_n_23 a b (a % 4294967296) (b % 4294967296) w ha hb (low_ex a ha) (Nat.mod_lt _ (by omega)) (low_ex b hb) (Nat.mod_lt _ (by omega))
    · rw [show isE 24 = 0 by decide]
      exact ris_n_24 a b (a % 4294967296) (b % 4294967296) w ha hb (low_ex a ha) (Nat.mod_lt _ (by omega)) (low_ex b hb) (Nat.mod_lt _ (by omega))
    · rw [show isE 25 = 0 by decide]
      exact ris_n_25 a b (a % 4294967296) (b % 4294967296) w ha hb (low_ex a ha) (Nat.mod_lt _ (by omega)) (low_ex b hb) (Nat.mod_lt _ (by omega))
    · rw [show isE 26 = 0 by decide]
      exact ris_n_26 a b (a % 4294967296) (b % 4294967296) w ha hb (low_ex a ha) (Nat.mod_lt _ (by omega)) (low_ex b hb) (Nat.mod_lt _ (by omega))
    · rw [show isE 27 = 0 by decide]
      exact ris_n_27 a b (a % 4294967296) (b % 4294967296) w ha hb (low_ex a ha) (Nat.mod_lt _ (by omega)) (low_ex b hb) (Nat.mod_lt _ (by omega))
  · have e1 : isE op = 2 := by simp [isE, h]
    have e2 : isV .u32 .i32 op.toNat ((a % 4294967296 : Nat) : Int) ((b % 4294967296 : Nat) : Int) = false := by
      obtain ⟨n, rfl⟩ := Int.eq_ofNat_of_zero_le h0
      unfold isV
      split <;> first | rfl | (exfalso; simp_all)
    rw [e1, e2]
    exact ris_n_no op a b (a % 4294967296) (b % 4294967296) w ha hb (low_ex a ha) (Nat.mod_lt _ (by omega)) (low_ex b hb) (Nat.mod_lt _ (by omega)) (by omega) (beq_eq_false_iff_ne.2 (by omega)) (beq_eq_false_iff_ne.2 (by omega)) (beq_eq_false_iff_ne.2 (by omega)) (beq_eq_false_iff_ne.2 (by omega)) (beq_eq_false_iff_ne.2 (by omega)) (beq_eq_false_iff_ne.2 (by omega)) (beq_eq_false_iff_ne.2 (by omega)) (beq_eq_false_iff_ne.2 (by omega)) (beq_eq_false_iff_ne.2 (by omega)) (beq_eq_false_iff_ne.2 (by omega)) (beq_eq_false_iff_ne.2 (by omega))


theorem rDo_any (nar : Bool) (op : Int) (a b : Nat) (w : World) (ha : a < 18446744073709551616) (hb : b < 18446744073709551616) :
    Calls Try.prog 35 #[.int .u8 op, .bool nar, .int .u64 a, .int .u64 b] w fun e w' => e = .returned (.tuple #[.int .u64 (DoV nar op a b), .int .i64 (DoE nar op b)]) ∧ ∃ n, w' = w.drewN n := by
  cases nar with
  | true =>
    have h := rDo_n op a b w ha hb
    rw [← low_cast, ← low_cast] at h
    exact h
  | false => exact rDo_w op a b w ha hb
theorem rIs_any (nar : Bool) (op : Int) (a b : Nat) (w : World) (h0 : 0 ≤ op) (ha : a < 18446744073709551616) (hb : b < 18446744073709551616) :
    Calls Try.prog 39 #[.int .u8 op, .bool nar, .int .u64 a, .int .u64 b] w fun e w' => e = .returned (.tuple #[.bool (IsV nar op a b), .int .i64 (isE op)]) ∧ w = w' := by
  cases nar with
  | true =>
    have h := rIs_n op a b w h0 ha hb
    rw [← low_cast, ← low_cast] at h
    exact h
  | false => exact rIs_w op a b w h0 ha hb

end Go.Proofs.Ytbfegghkipoppaa
