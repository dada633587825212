/- alu.is, over this seat's program. -/
import Derived.Test.YtlfgddljmcgggaaDoC
namespace Go.Proofs.Ytlfgddljmcgggaa
open Go.RowKit
set_option linter.unusedVariables false

/-- What a question tells of two numbers of kind k (signed: s). -/
def isV (k s : IntKind) (i : Nat) (a b : Int) : Bool :=
  match i with
  | 17 => a == b
  | 18 => a != b
  | 19 => decide (b < a)
  | 20 => decide (b ≤ a)
  | 21 => decide (a < b)
  | 22 => decide (a ≤ b)
  | 23 => decide (s.wrap b < s.wrap a)
  | 24 => decide (s.wrap b ≤ s.wrap a)
  | 25 => decide (s.wrap a < s.wrap b)
  | 26 => decide (s.wrap a ≤ s.wrap b)
  | 27 => bits BinOp.and k a b != 0
  | _ => false

theorem is32_17 (a b : Int) (w : World) (ha0 : 0 ≤ a) (ha1 : a ≤ 4294967295) (hb0 : 0 ≤ b) (hb1 : b ≤ 4294967295) :
    Calls Try.prog 20 #[.int .u8 17, .int .u32 a, .int .u32 b] w fun e w' => e = .returned (.tuple #[.bool (isV .u32 .i32 17 a b), .int .i64 0]) ∧ w = w' := by
  go_enter Try.func20, Try.ntmps20
  go_wp2
  go_ret2
  exact ⟨rfl, rfl⟩

theorem is32_18 (a b : Int) (w : World) (ha0 : 0 ≤ a) (ha1 : a ≤ 4294967295) (hb0 : 0 ≤ b) (hb1 : b ≤ 4294967295) :
    Calls Try.prog 20 #[.int .u8 18, .int .u32 a, .int .u32 b] w fun e w' => e = .returned (.tuple #[.bool (isV .u32 .i32 18 a b), .int .i64 0]) ∧ w = w' := by
  go_enter Try.func20, Try.ntmps20
  go_wp2
  go_ret2
  exact ⟨rfl, rfl⟩

theorem is32_19 (a b : Int) (w : World) (ha0 : 0 ≤ a) (ha1 : a ≤ 4294967295) (hb0 : 0 ≤ b) (hb1 : b ≤ 4294967295) :
    Calls Try.prog 20 #[.int .u8 19, .int .u32 a, .int .u32 b] w fun e w' => e = .returned (.tuple #[.bool (isV .u32 .i32 19 a b), .int .i64 0]) ∧ w = w' := by
  go_enter Try.func20, Try.ntmps20
  go_wp2
  go_ret2
  exact ⟨rfl, rfl⟩

theorem is32_20 (a b : Int) (w : World) (ha0 : 0 ≤ a) (ha1 : a ≤ 4294967295) (hb0 : 0 ≤ b) (hb1 : b ≤ 4294967295) :
    Calls Try.prog 20 #[.int .u8 20, .int .u32 a, .int .u32 b] w fun e w' => e = .returned (.tuple #[.bool (isV .u32 .i32 20 a b), .int .i64 0]) ∧ w = w' := by
  go_enter Try.func20, Try.ntmps20
  go_wp2
  go_ret2
  exact ⟨rfl, rfl⟩

theorem is32_21 (a b : Int) (w : World) (ha0 : 0 ≤ a) (ha1 : a ≤ 4294967295) (hb0 : 0 ≤ b) (hb1 : b ≤ 4294967295) :
    Calls Try.prog 20 #[.int .u8 21, .int .u32 a, .int .u32 b] w fun e w' => e = .returned (.tuple #[.bool (isV .u32 .i32 21 a b), .int .i64 0]) ∧ w = w' := by
  go_enter Try.func20, Try.ntmps20
  go_wp2
  go_ret2
  exact ⟨rfl, rfl⟩

theorem is32_22 (a b : Int) (w : World) (ha0 : 0 ≤ a) (ha1 : a ≤ 4294967295) (hb0 : 0 ≤ b) (hb1 : b ≤ 4294967295) :
    Calls Try.prog 20 #[.int .u8 22, .int .u32 a, .int .u32 b] w fun e w' => e = .returned (.tuple #[.bool (isV .u32 .i32 22 a b), .int .i64 0]) ∧ w = w' := by
  go_enter Try.func20, Try.ntmps20
  go_wp2
  go_ret2
  exact ⟨rfl, rfl⟩

theorem is32_23 (a b : Int) (w : World) (ha0 : 0 ≤ a) (ha1 : a ≤ 4294967295) (hb0 : 0 ≤ b) (hb1 : b ≤ 4294967295) :
    Calls Try.prog 20 #[.int .u8 23, .int .u32 a, .int .u32 b] w fun e w' => e = .returned (.tuple #[.bool (isV .u32 .i32 23 a b), .int .i64 0]) ∧ w = w' := by
  have e1 : wrap32 a = IntKind.i32.wrap a := by unfold wrap32; rw [IntKind.wrap_i32]
  have e2 : wrap32 b = IntKind.i32.wrap b := by unfold wrap32; rw [IntKind.wrap_i32]
  have E1 := Lib.hid e1
  have E2 := Lib.hid e2
  clear e1 e2
  go_enter Try.func20, Try.ntmps20
  go_wp2
  go_ret2
  refine ⟨?_, rfl⟩
  show _ = Ending.returned (.tuple #[.bool (decide (IntKind.i32.wrap b < IntKind.i32.wrap a)), .int .i64 0])
  rw [← E1.out, ← E2.out]
  rfl

theorem is32_24 (a b : Int) (w : World) (ha0 : 0 ≤ a) (ha1 : a ≤ 4294967295) (hb0 : 0 ≤ b) (hb1 : b ≤ 4294967295) :
    Calls Try.prog 20 #[.int .u8 24, .int .u32 a, .int .u32 b] w fun e w' => e = .returned (.tuple #[.bool (isV .u32 .i32 24 a b), .int .i64 0]) ∧ w = w' := by
  have e1 : wrap32 a = IntKind.i32.wrap a := by unfold wrap32; rw [IntKind.wrap_i32]
  have e2 : wrap32 b = IntKind.i32.wrap b := by unfold wrap32; rw [IntKind.wrap_i32]
  have E1 := Lib.hid e1
  have E2 := Lib.hid e2
  clear e1 e2
  go_enter Try.func20, Try.ntmps20
  go_wp2
  go_ret2
  refine ⟨?_, rfl⟩
  show _ = Ending.returned (.tuple #[.bool (decide (IntKind.i32.wrap b ≤ IntKind.i32.wrap a)), .int .i64 0])
  rw [← E1.out, ← E2.out]
  rfl

theorem is32_25 (a b : Int) (w : World) (ha0 : 0 ≤ a) (ha1 : a ≤ 4294967295) (hb0 : 0 ≤ b) (hb1 : b ≤ 4294967295) :
    Calls Try.prog 20 #[.int .u8 25, .int .u32 a, .int .u32 b] w fun e w' => e = .returned (.tuple #[.bool (isV .u32 .i32 25 a b), .int .i64 0]) ∧ w = w' := by
  have e1 : wrap32 a = IntKind.i32.wrap a := by unfold wrap32; rw [IntKind.wrap_i32]
  have e2 : wrap32 b = IntKind.i32.wrap b := by unfold wrap32; rw [IntKind.wrap_i32]
  have E1 := Lib.hid e1
  have E2 := Lib.hid e2
  clear e1 e2
  go_enter Try.func20, Try.ntmps20
  go_wp2
  go_ret2
  refine ⟨?_, rfl⟩
  show _ = Ending.returned (.tuple #[.bool (decide (IntKind.i32.wrap a < IntKind.i32.wrap b)), .int .i64 0])
  rw [← E1.out, ← E2.out]
  rfl

theorem is32_26 (a b : Int) (w : World) (ha0 : 0 ≤ a) (ha1 : a ≤ 4294967295) (hb0 : 0 ≤ b) (hb1 : b ≤ 4294967295) :
    Calls Try.prog 20 #[.int .u8 26, .int .u32 a, .int .u32 b] w fun e w' => e = .returned (.tuple #[.bool (isV .u32 .i32 26 a b), .int .i64 0]) ∧ w = w' := by
  have e1 : wrap32 a = IntKind.i32.wrap a := by unfold wrap32; rw [IntKind.wrap_i32]
  have e2 : wrap32 b = IntKind.i32.wrap b := by unfold wrap32; rw [IntKind.wrap_i32]
  have E1 := Lib.hid e1
  have E2 := Lib.hid e2
  clear e1 e2
  go_enter Try.func20, Try.ntmps20
  go_wp2
  go_ret2
  refine ⟨?_, rfl⟩
  show _ = Ending.returned (.tuple #[.bool (decide (IntKind.i32.wrap a ≤ IntKind.i32.wrap b)), .int .i64 0])
  rw [← E1.out, ← E2.out]
  rfl

theorem is32_27 (a b : Int) (w : World) (ha0 : 0 ≤ a) (ha1 : a ≤ 4294967295) (hb0 : 0 ≤ b) (hb1 : b ≤ 4294967295) :
    Calls Try.prog 20 #[.int .u8 27, .int .u32 a, .int .u32 b] w fun e w' => e = .returned (.tuple #[.bool (isV .u32 .i32 27 a b), .int .i64 0]) ∧ w = w' := by
  go_enter Try.func20, Try.ntmps20
  go_wp2
  go_ret2
  exact ⟨rfl, rfl⟩

theorem is32_no (op a b : Int) (w : World) (h17 : (op == 17) = false) (h18 : (op == 18) = false) (h19 : (op == 19) = false) (h20 : (op == 20) = false) (h21 : (op == 21) = false) (h22 : (op == 22) = false) (h23 : (op == 23) = false) (h24 : (op == 24) = false) (h25 : (op == 25) = false) (h26 : (op == 26) = false) (h27 : (op == 27) = false) :
    Calls Try.prog 20 #[.int .u8 op, .int .u32 a, .int .u32 b] w fun e w' => e = .returned (.tuple #[.bool false, .int .i64 2]) ∧ w = w' := by
  go_enter Try.func20, Try.ntmps20
  go_wp2
  go_ret2
  exact ⟨rfl, rfl⟩

theorem is64_17 (a b : Int) (w : World) (ha0 : 0 ≤ a) (ha1 : a ≤ 18446744073709551615) (hb0 : 0 ≤ b) (hb1 : b ≤ 18446744073709551615) :
    Calls Try.prog 21 #[.int .u8 17, .int .u64 a, .int .u64 b] w fun e w' => e = .returned (.tuple #[.bool (isV .u64 .i64 17 a b), .int .i64 0]) ∧ w = w' := by
  go_enter Try.func21, Try.ntmps21
  go_wp2
  go_ret2
  exact ⟨rfl, rfl⟩

theorem is64_18 (a b : Int) (w : World) (ha0 : 0 ≤ a) (ha1 : a ≤ 18446744073709551615) (hb0 : 0 ≤ b) (hb1 : b ≤ 18446744073709551615) :
    Calls Try.prog 21 #[.int .u8 18, .int .u64 a, .int .u64 b] w fun e w' => e = .returned (.tuple #[.bool (isV .u64 .i64 18 a b), .int .i64 0]) ∧ w = w' := by
  go_enter Try.func21, Try.ntmps21
  go_wp2
  go_ret2
  exact ⟨rfl, rfl⟩

theorem is64_19 (a b : Int) (w : World) (ha0 : 0 ≤ a) (ha1 : a ≤ 18446744073709551615) (hb0 : 0 ≤ b) (hb1 : b ≤ 18446744073709551615) :
    Calls Try.prog 21 #[.int .u8 19, .int .u64 a, .int .u64 b] w fun e w' => e = .returned (.tuple #[.bool (isV .u64 .i64 19 a b), .int .i64 0]) ∧ w = w' := by
  go_enter Try.func21, Try.ntmps21
  go_wp2
  go_ret2
  exact ⟨rfl, rfl⟩

theorem is64_20 (a b : Int) (w : World) (ha0 : 0 ≤ a) (ha1 : a ≤ 18446744073709551615) (hb0 : 0 ≤ b) (hb1 : b ≤ 18446744073709551615) :
    Calls Try.prog 21 #[.int .u8 20, .int .u64 a, .int .u64 b] w fun e w' => e = .returned (.tuple #[.bool (isV .u64 .i64 20 a b), .int .i64 0]) ∧ w = w' := by
  go_enter Try.func21, Try.ntmps21
  go_wp2
  go_ret2
  exact ⟨rfl, rfl⟩

theorem is64_21 (a b : Int) (w : World) (ha0 : 0 ≤ a) (ha1 : a ≤ 18446744073709551615) (hb0 : 0 ≤ b) (hb1 : b ≤ 18446744073709551615) :
    Calls Try.prog 21 #[.int .u8 21, .int .u64 a, .int .u64 b] w fun e w' => e = .returned (.tuple #[.bool (isV .u64 .i64 21 a b), .int .i64 0]) ∧ w = w' := by
  go_enter Try.func21, Try.ntmps21
  go_wp2
  go_ret2
  exact ⟨rfl, rfl⟩

theorem is64_22 (a b : Int) (w : World) (ha0 : 0 ≤ a) (ha1 : a ≤ 18446744073709551615) (hb0 : 0 ≤ b) (hb1 : b ≤ 18446744073709551615) :
    Calls Try.prog 21 #[.int .u8 22, .int .u64 a, .int .u64 b] w fun e w' => e = .returned (.tuple #[.bool (isV .u64 .i64 22 a b), .int .i64 0]) ∧ w = w' := by
  go_enter Try.func21, Try.ntmps21
  go_wp2
  go_ret2
  exact ⟨rfl, rfl⟩

theorem is64_23 (a b : Int) (w : World) (ha0 : 0 ≤ a) (ha1 : a ≤ 18446744073709551615) (hb0 : 0 ≤ b) (hb1 : b ≤ 18446744073709551615) :
    Calls Try.prog 21 #[.int .u8 23, .int .u64 a, .int .u64 b] w fun e w' => e = .returned (.tuple #[.bool (isV .u64 .i64 23 a b), .int .i64 0]) ∧ w = w' := by
  have e1 : wrap64 a = IntKind.i64.wrap a := by unfold wrap64; rw [IntKind.wrap_i64]
  have e2 : wrap64 b = IntKind.i64.wrap b := by unfold wrap64; rw [IntKind.wrap_i64]
  have E1 := Lib.hid e1
  have E2 := Lib.hid e2
  clear e1 e2
  go_enter Try.func21, Try.ntmps21
  go_wp2
  go_ret2
  refine ⟨?_, rfl⟩
  show _ = Ending.returned (.tuple #[.bool (decide (IntKind.i64.wrap b < IntKind.i64.wrap a)), .int .i64 0])
  rw [← E1.out, ← E2.out]
  rfl

theorem is64_24 (a b : Int) (w : World) (ha0 : 0 ≤ a) (ha1 : a ≤ 18446744073709551615) (hb0 : 0 ≤ b) (hb1 : b ≤ 18446744073709551615) :
    Calls Try.prog 21 #[.int .u8 24, .int .u64 a, .int .u64 b] w fun e w' => e = .returned (.tuple #[.bool (isV .u64 .i64 24 a b), .int .i64 0]) ∧ w = w' := by
  have e1 : wrap64 a = IntKind.i64.wrap a := by unfold wrap64; rw [IntKind.wrap_i64]
  have e2 : wrap64 b = IntKind.i64.wrap b := by unfold wrap64; rw [IntKind.wrap_i64]
  have E1 := Lib.hid e1
  have E2 := Lib.hid e2
  clear e1 e2
  go_enter Try.func21, Try.ntmps21
  go_wp2
  go_ret2
  refine ⟨?_, rfl⟩
  show _ = Ending.returned (.tuple #[.bool (decide (IntKind.i64.wrap b ≤ IntKind.i64.wrap a)), .int .i64 0])
  rw [← E1.out, ← E2.out]
  rfl

theorem is64_25 (a b : Int) (w : World) (ha0 : 0 ≤ a) (ha1 : a ≤ 18446744073709551615) (hb0 : 0 ≤ b) (hb1 : b ≤ 18446744073709551615) :
    Calls Try.prog 21 #[.int .u8 25, .int .u64 a, .int .u64 b] w fun e w' => e = .returned (.tuple #[.bool (isV .u64 .i64 25 a b), .int .i64 0]) ∧ w = w' := by
  have e1 : wrap64 a = IntKind.i64.wrap a := by unfold wrap64; rw [IntKind.wrap_i64]
  have e2 : wrap64 b = IntKind.i64.wrap b := by unfold wrap64; rw [IntKind.wrap_i64]
  have E1 := Lib.hid e1
  have E2 := Lib.hid e2
  clear e1 e2
  go_enter Try.func21, Try.ntmps21
  go_wp2
  go_ret2
  refine ⟨?_, rfl⟩
  show _ = Ending.returned (.tuple #[.bool (decide (IntKind.i64.wrap a < IntKind.i64.wrap b)), .int .i64 0])
  rw [← E1.out, ← E2.out]
  rfl

theorem is64_26 (a b : Int) (w : World) (ha0 : 0 ≤ a) (ha1 : a ≤ 18446744073709551615) (hb0 : 0 ≤ b) (hb1 : b ≤ 18446744073709551615) :
    Calls Try.prog 21 #[.int .u8 26, .int .u64 a, .int .u64 b] w fun e w' => e = .returned (.tuple #[.bool (isV .u64 .i64 26 a b), .int .i64 0]) ∧ w = w' := by
  have e1 : wrap64 a = IntKind.i64.wrap a := by unfold wrap64; rw [IntKind.wrap_i64]
  have e2 : wrap64 b = IntKind.i64.wrap b := by unfold wrap64; rw [IntKind.wrap_i64]
  have E1 := Lib.hid e1
  have E2 := Lib.hid e2
  clear e1 e2
  go_enter Try.func21, Try.ntmps21
  go_wp2
  go_ret2
  refine ⟨?_, rfl⟩
  show _ = Ending.returned (.tuple #[.bool (decide (IntKind.i64.wrap a ≤ IntKind.i64.wrap b)), .int .i64 0])
  rw [← E1.out, ← E2.out]
  rfl

theorem is64_27 (a b : Int) (w : World) (ha0 : 0 ≤ a) (ha1 : a ≤ 18446744073709551615) (hb0 : 0 ≤ b) (hb1 : b ≤ 18446744073709551615) :
    Calls Try.prog 21 #[.int .u8 27, .int .u64 a, .int .u64 b] w fun e w' => e = .returned (.tuple #[.bool (isV .u64 .i64 27 a b), .int .i64 0]) ∧ w = w' := by
  go_enter Try.func21, Try.ntmps21
  go_wp2
  go_ret2
  exact ⟨rfl, rfl⟩

theorem is64_no (op a b : Int) (w : World) (h17 : (op == 17) = false) (h18 : (op == 18) = false) (h19 : (op == 19) = false) (h20 : (op == 20) = false) (h21 : (op == 21) = false) (h22 : (op == 22) = false) (h23 : (op == 23) = false) (h24 : (op == 24) = false) (h25 : (op == 25) = false) (h26 : (op == 26) = false) (h27 : (op == 27) = false) :
    Calls Try.prog 21 #[.int .u8 op, .int .u64 a, .int .u64 b] w fun e w' => e = .returned (.tuple #[.bool false, .int .i64 2]) ∧ w = w' := by
  go_enter Try.func21, Try.ntmps21
  go_wp2
  go_ret2
  exact ⟨rfl, rfl⟩

end Go.Proofs.Ytlfgddljmcgggaa
