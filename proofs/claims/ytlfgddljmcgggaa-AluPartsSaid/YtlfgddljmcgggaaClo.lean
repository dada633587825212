/- The closures of alu.do, over this seat's program. -/
import Derived.Test.YtlfgddljmcgggaaProg
import Derived.WalkKit
import Derived.IntWalk
import Derived.Lib.Hide
import Derived.Deep.QuietTactic
import Derived.BigQuiet
import Derived.Deep.Draws
import Derived.WalkLawsBesides
namespace Go.Proofs.Ytlfgddljmcgggaa
open Go.RowKit
set_option linter.unusedVariables false

/-- What operator i makes of two numbers of kind k (signed: s; so many bits: sz). -/
def opV (k s : IntKind) (sz : Int) (i : Nat) (a b : Int) : Int :=
  match i with
  | 1 => k.wrap (a + b)
  | 2 => k.wrap (a - b)
  | 3 => k.wrap (a * b)
  | 4 => a / b
  | 5 => a % b
  | 6 => bits BinOp.and k a b
  | 7 => bits BinOp.or k a b
  | 8 => bits BinOp.xor k a b
  | 9 => k.wrap (a * 2 ^ (b % sz).toNat)
  | 10 => a / 2 ^ (b % sz).toNat
  | 11 => k.wrap (s.wrap a / 2 ^ (b % sz).toNat)
  | 12 => b
  | 13 => k.wrap (-a)
  | _ => 0

theorem cu32_1 (p q r : Addr) (a b : Int) (w : World) (hp : w.cell? p = some (.int .u32 a)) (hq : w.cell? q = some (.int .u32 b)) (hr : w.cell? r = some (.int .u32 32)) (ha0 : 0 ≤ a) (ha1 : a ≤ 4294967295) (hb0 : 0 ≤ b) (hb1 : b ≤ 4294967295) :
    Calls Try.prog 22 #[.pointer (some p), .pointer (some q)] w fun e w' => e = .returned (.int .u32 (opV .u32 .i32 32 1 a b)) ∧ ∃ n, w' = w.drewN n := by
  go_enter Try.func22, Try.ntmps22
  go_wp2
  go_ret
  exact ⟨rfl, ⟨0, rfl⟩⟩

theorem cu32_2 (p q r : Addr) (a b : Int) (w : World) (hp : w.cell? p = some (.int .u32 a)) (hq : w.cell? q = some (.int .u32 b)) (hr : w.cell? r = some (.int .u32 32)) (ha0 : 0 ≤ a) (ha1 : a ≤ 4294967295) (hb0 : 0 ≤ b) (hb1 : b ≤ 4294967295) :
    Calls Try.prog 23 #[.pointer (some p), .pointer (some q)] w fun e w' => e = .returned (.int .u32 (opV .u32 .i32 32 2 a b)) ∧ ∃ n, w' = w.drewN n := by
  go_enter Try.func23, Try.ntmps23
  go_wp2
  go_ret
  exact ⟨rfl, ⟨0, rfl⟩⟩

theorem cu32_3 (p q r : Addr) (a b : Int) (w : World) (hp : w.cell? p = some (.int .u32 a)) (hq : w.cell? q = some (.int .u32 b)) (hr : w.cell? r = some (.int .u32 32)) (ha0 : 0 ≤ a) (ha1 : a ≤ 4294967295) (hb0 : 0 ≤ b) (hb1 : b ≤ 4294967295) :
    Calls Try.prog 24 #[.pointer (some p), .pointer (some q)] w fun e w' => e = .returned (.int .u32 (opV .u32 .i32 32 3 a b)) ∧ ∃ n, w' = w.drewN n := by
  go_enter Try.func24, Try.ntmps24
  go_wp2
  go_ret
  exact ⟨rfl, ⟨0, rfl⟩⟩

theorem cu32_4 (p q r : Addr) (a b : Int) (w : World) (hp : w.cell? p = some (.int .u32 a)) (hq : w.cell? q = some (.int .u32 b)) (hr : w.cell? r = some (.int .u32 32)) (ha0 : 0 ≤ a) (ha1 : a ≤ 4294967295) (hb0 : 0 ≤ b) (hb1 : b ≤ 4294967295) (hb : 1 ≤ b) :
    Calls Try.prog 25 #[.pointer (some p), .pointer (some q)] w fun e w' => e = .returned (.int .u32 (opV .u32 .i32 32 4 a b)) ∧ ∃ n, w' = w.drewN n := by
  go_enter Try.func25, Try.ntmps25
  go_wp2
  go_ret
  exact ⟨rfl, ⟨0, rfl⟩⟩

theorem cu32_5 (p q r : Addr) (a b : Int) (w : World) (hp : w.cell? p = some (.int .u32 a)) (hq : w.cell? q = some (.int .u32 b)) (hr : w.cell? r = some (.int .u32 32)) (ha0 : 0 ≤ a) (ha1 : a ≤ 4294967295) (hb0 : 0 ≤ b) (hb1 : b ≤ 4294967295) (hb : 1 ≤ b) :
    Calls Try.prog 26 #[.pointer (some p), .pointer (some q)] w fun e w' => e = .returned (.int .u32 (opV .u32 .i32 32 5 a b)) ∧ ∃ n, w' = w.drewN n := by
  go_enter Try.func26, Try.ntmps26
  go_wp2
  go_ret
  exact ⟨rfl, ⟨0, rfl⟩⟩

theorem cu32_6 (p q r : Addr) (a b : Int) (w : World) (hp : w.cell? p = some (.int .u32 a)) (hq : w.cell? q = some (.int .u32 b)) (hr : w.cell? r = some (.int .u32 32)) (ha0 : 0 ≤ a) (ha1 : a ≤ 4294967295) (hb0 : 0 ≤ b) (hb1 : b ≤ 4294967295) :
    Calls Try.prog 27 #[.pointer (some p), .pointer (some q)] w fun e w' => e = .returned (.int .u32 (opV .u32 .i32 32 6 a b)) ∧ ∃ n, w' = w.drewN n := by
  go_enter Try.func27, Try.ntmps27
  go_wp2
  go_ret
  exact ⟨rfl, ⟨0, rfl⟩⟩

theorem cu32_7 (p q r : Addr) (a b : Int) (w : World) (hp : w.cell? p = some (.int .u32 a)) (hq : w.cell? q = some (.int .u32 b)) (hr : w.cell? r = some (.int .u32 32)) (ha0 : 0 ≤ a) (ha1 : a ≤ 4294967295) (hb0 : 0 ≤ b) (hb1 : b ≤ 4294967295) :
    Calls Try.prog 28 #[.pointer (some p), .pointer (some q)] w fun e w' => e = .returned (.int .u32 (opV .u32 .i32 32 7 a b)) ∧ ∃ n, w' = w.drewN n := by
  go_enter Try.func28, Try.ntmps28
  go_wp2
  go_ret
  exact ⟨rfl, ⟨0, rfl⟩⟩

theorem cu32_8 (p q r : Addr) (a b : Int) (w : World) (hp : w.cell? p = some (.int .u32 a)) (hq : w.cell? q = some (.int .u32 b)) (hr : w.cell? r = some (.int .u32 32)) (ha0 : 0 ≤ a) (ha1 : a ≤ 4294967295) (hb0 : 0 ≤ b) (hb1 : b ≤ 4294967295) :
    Calls Try.prog 29 #[.pointer (some p), .pointer (some q)] w fun e w' => e = .returned (.int .u32 (opV .u32 .i32 32 8 a b)) ∧ ∃ n, w' = w.drewN n := by
  go_enter Try.func29, Try.ntmps29
  go_wp2
  go_ret
  exact ⟨rfl, ⟨0, rfl⟩⟩

theorem cu32_9 (p q r : Addr) (a b : Int) (w : World) (hp : w.cell? p = some (.int .u32 a)) (hq : w.cell? q = some (.int .u32 b)) (hr : w.cell? r = some (.int .u32 32)) (ha0 : 0 ≤ a) (ha1 : a ≤ 4294967295) (hb0 : 0 ≤ b) (hb1 : b ≤ 4294967295) :
    Calls Try.prog 30 #[.pointer (some p), .pointer (some q), .pointer (some r)] w fun e w' => e = .returned (.int .u32 (opV .u32 .i32 32 9 a b)) ∧ ∃ n, w' = w.drewN n := by
  go_enter Try.func30, Try.ntmps30
  go_wp2
  go_quiet (fail)
  go_wp2
  go_ret
  exact ⟨rfl, ⟨_, rfl⟩⟩

theorem cu32_10 (p q r : Addr) (a b : Int) (w : World) (hp : w.cell? p = some (.int .u32 a)) (hq : w.cell? q = some (.int .u32 b)) (hr : w.cell? r = some (.int .u32 32)) (ha0 : 0 ≤ a) (ha1 : a ≤ 4294967295) (hb0 : 0 ≤ b) (hb1 : b ≤ 4294967295) :
    Calls Try.prog 31 #[.pointer (some p), .pointer (some q), .pointer (some r)] w fun e w' => e = .returned (.int .u32 (opV .u32 .i32 32 10 a b)) ∧ ∃ n, w' = w.drewN n := by
  go_enter Try.func31, Try.ntmps31
  go_wp2
  go_quiet (fail)
  go_wp2
  go_ret
  exact ⟨rfl, ⟨_, rfl⟩⟩

theorem cu32_11 (p q r : Addr) (a b : Int) (w : World) (hp : w.cell? p = some (.int .u32 a)) (hq : w.cell? q = some (.int .u32 b)) (hr : w.cell? r = some (.int .u32 32)) (ha0 : 0 ≤ a) (ha1 : a ≤ 4294967295) (hb0 : 0 ≤ b) (hb1 : b ≤ 4294967295) :
    Calls Try.prog 32 #[.pointer (some p), .pointer (some q), .pointer (some r)] w fun e w' => e = .returned (.int .u32 (opV .u32 .i32 32 11 a b)) ∧ ∃ n, w' = w.drewN n := by
  go_enter Try.func32, Try.ntmps32
  go_wp2
  go_quiet (fail)
  go_wp2
  go_ret
  refine ⟨?_, ⟨_, rfl⟩⟩
  have e : wrap32 a = IntKind.i32.wrap a := by unfold wrap32; rw [IntKind.wrap_i32]
  show _ = Ending.returned (.int .u32 (IntKind.u32.wrap (IntKind.i32.wrap a / 2 ^ (b % 32).toNat)))
  rw [← e]
  rfl

theorem cu32_12 (p q r : Addr) (a b : Int) (w : World) (hp : w.cell? p = some (.int .u32 a)) (hq : w.cell? q = some (.int .u32 b)) (hr : w.cell? r = some (.int .u32 32)) (ha0 : 0 ≤ a) (ha1 : a ≤ 4294967295) (hb0 : 0 ≤ b) (hb1 : b ≤ 4294967295) :
    Calls Try.prog 33 #[.pointer (some q)] w fun e w' => e = .returned (.int .u32 (opV .u32 .i32 32 12 a b)) ∧ ∃ n, w' = w.drewN n := by
  go_enter Try.func33, Try.ntmps33
  go_wp2
  go_ret
  exact ⟨rfl, ⟨0, rfl⟩⟩

theorem cu32_13 (p q r : Addr) (a b : Int) (w : World) (hp : w.cell? p = some (.int .u32 a)) (hq : w.cell? q = some (.int .u32 b)) (hr : w.cell? r = some (.int .u32 32)) (ha0 : 0 ≤ a) (ha1 : a ≤ 4294967295) (hb0 : 0 ≤ b) (hb1 : b ≤ 4294967295) :
    Calls Try.prog 34 #[.pointer (some p)] w fun e w' => e = .returned (.int .u32 (opV .u32 .i32 32 13 a b)) ∧ ∃ n, w' = w.drewN n := by
  go_enter Try.func34, Try.ntmps34
  go_wp2
  go_ret
  exact ⟨rfl, ⟨0, rfl⟩⟩

theorem cu64_1 (p q r : Addr) (a b : Int) (w : World) (hp : w.cell? p = some (.int .u64 a)) (hq : w.cell? q = some (.int .u64 b)) (hr : w.cell? r = some (.int .u64 64)) (ha0 : 0 ≤ a) (ha1 : a ≤ 18446744073709551615) (hb0 : 0 ≤ b) (hb1 : b ≤ 18446744073709551615) :
    Calls Try.prog 35 #[.pointer (some p), .pointer (some q)] w fun e w' => e = .returned (.int .u64 (opV .u64 .i64 64 1 a b)) ∧ ∃ n, w' = w.drewN n := by
  go_enter Try.func35, Try.ntmps35
  go_wp2
  go_ret
  exact ⟨rfl, ⟨0, rfl⟩⟩

theorem cu64_2 (p q r : Addr) (a b : Int) (w : World) (hp : w.cell? p = some (.int .u64 a)) (hq : w.cell? q = some (.int .u64 b)) (hr : w.cell? r = some (.int .u64 64)) (ha0 : 0 ≤ a) (ha1 : a ≤ 18446744073709551615) (hb0 : 0 ≤ b) (hb1 : b ≤ 18446744073709551615) :
    Calls Try.prog 36 #[.pointer (some p), .pointer (some q)] w fun e w' => e = .returned (.int .u64 (opV .u64 .i64 64 2 a b)) ∧ ∃ n, w' = w.drewN n := by
  go_enter Try.func36, Try.ntmps36
  go_wp2
  go_ret
  exact ⟨rfl, ⟨0, rfl⟩⟩

theorem cu64_3 (p q r : Addr) (a b : Int) (w : World) (hp : w.cell? p = some (.int .u64 a)) (hq : w.cell? q = some (.int .u64 b)) (hr : w.cell? r = some (.int .u64 64)) (ha0 : 0 ≤ a) (ha1 : a ≤ 18446744073709551615) (hb0 : 0 ≤ b) (hb1 : b ≤ 18446744073709551615) :
    Calls Try.prog 37 #[.pointer (some p), .pointer (some q)] w fun e w' => e = .returned (.int .u64 (opV .u64 .i64 64 3 a b)) ∧ ∃ n, w' = w.drewN n := by
  go_enter Try.func37, Try.ntmps37
  go_wp2
  go_ret
  exact ⟨rfl, ⟨0, rfl⟩⟩

theorem cu64_4 (p q r : Addr) (a b : Int) (w : World) (hp : w.cell? p = some (.int .u64 a)) (hq : w.cell? q = some (.int .u64 b)) (hr : w.cell? r = some (.int .u64 64)) (ha0 : 0 ≤ a) (ha1 : a ≤ 18446744073709551615) (hb0 : 0 ≤ b) (hb1 : b ≤ 18446744073709551615) (hb : 1 ≤ b) :
    Calls Try.prog 38 #[.pointer (some p), .pointer (some q)] w fun e w' => e = .returned (.int .u64 (opV .u64 .i64 64 4 a b)) ∧ ∃ n, w' = w.drewN n := by
  go_enter Try.func38, Try.ntmps38
  go_wp2
  go_ret
  exact ⟨rfl, ⟨0, rfl⟩⟩

theorem cu64_5 (p q r : Addr) (a b : Int) (w : World) (hp : w.cell? p = some (.int .u64 a)) (hq : w.cell? q = some (.int .u64 b)) (hr : w.cell? r = some (.int .u64 64)) (ha0 : 0 ≤ a) (ha1 : a ≤ 18446744073709551615) (hb0 : 0 ≤ b) (hb1 : b ≤ 18446744073709551615) (hb : 1 ≤ b) :
    Calls Try.prog 39 #[.pointer (some p), .pointer (some q)] w fun e w' => e = .returned (.int .u64 (opV .u64 .i64 64 5 a b)) ∧ ∃ n, w' = w.drewN n := by
  go_enter Try.func39, Try.ntmps39
  go_wp2
  go_ret
  exact ⟨rfl, ⟨0, rfl⟩⟩

theorem cu64_6 (p q r : Addr) (a b : Int) (w : World) (hp : w.cell? p = some (.int .u64 a)) (hq : w.cell? q = some (.int .u64 b)) (hr : w.cell? r = some (.int .u64 64)) (ha0 : 0 ≤ a) (ha1 : a ≤ 18446744073709551615) (hb0 : 0 ≤ b) (hb1 : b ≤ 18446744073709551615) :
    Calls Try.prog 40 #[.pointer (some p), .pointer (some q)] w fun e w' => e = .returned (.int .u64 (opV .u64 .i64 64 6 a b)) ∧ ∃ n, w' = w.drewN n := by
  go_enter Try.func40, Try.ntmps40
  go_wp2
  go_ret
  exact ⟨rfl, ⟨0, rfl⟩⟩

theorem cu64_7 (p q r : Addr) (a b : Int) (w : World) (hp : w.cell? p = some (.int .u64 a)) (hq : w.cell? q = some (.int .u64 b)) (hr : w.cell? r = some (.int .u64 64)) (ha0 : 0 ≤ a) (ha1 : a ≤ 18446744073709551615) (hb0 : 0 ≤ b) (hb1 : b ≤ 18446744073709551615) :
    Calls Try.prog 41 #[.pointer (some p), .pointer (some q)] w fun e w' => e = .returned (.int .u64 (opV .u64 .i64 64 7 a b)) ∧ ∃ n, w' = w.drewN n := by
  go_enter Try.func41, Try.ntmps41
  go_wp2
  go_ret
  exact ⟨rfl, ⟨0, rfl⟩⟩

theorem cu64_8 (p q r : Addr) (a b : Int) (w : World) (hp : w.cell? p = some (.int .u64 a)) (hq : w.cell? q = some (.int .u64 b)) (hr : w.cell? r = some (.int .u64 64)) (ha0 : 0 ≤ a) (ha1 : a ≤ 18446744073709551615) (hb0 : 0 ≤ b) (hb1 : b ≤ 18446744073709551615) :
    Calls Try.prog 42 #[.pointer (some p), .pointer (some q)] w fun e w' => e = .returned (.int .u64 (opV .u64 .i64 64 8 a b)) ∧ ∃ n, w' = w.drewN n := by
  go_enter Try.func42, Try.ntmps42
  go_wp2
  go_ret
  exact ⟨rfl, ⟨0, rfl⟩⟩

theorem cu64_9 (p q r : Addr) (a b : Int) (w : World) (hp : w.cell? p = some (.int .u64 a)) (hq : w.cell? q = some (.int .u64 b)) (hr : w.cell? r = some (.int .u64 64)) (ha0 : 0 ≤ a) (ha1 : a ≤ 18446744073709551615) (hb0 : 0 ≤ b) (hb1 : b ≤ 18446744073709551615) :
    Calls Try.prog 43 #[.pointer (some p), .pointer (some q), .pointer (some r)] w fun e w' => e = .returned (.int .u64 (opV .u64 .i64 64 9 a b)) ∧ ∃ n, w' = w.drewN n := by
  go_enter Try.func43, Try.ntmps43
  go_wp2
  go_quiet (fail)
  go_wp2
  go_ret
  exact ⟨rfl, ⟨_, rfl⟩⟩

theorem cu64_10 (p q r : Addr) (a b : Int) (w : World) (hp : w.cell? p = some (.int .u64 a)) (hq : w.cell? q = some (.int .u64 b)) (hr : w.cell? r = some (.int .u64 64)) (ha0 : 0 ≤ a) (ha1 : a ≤ 18446744073709551615) (hb0 : 0 ≤ b) (hb1 : b ≤ 18446744073709551615) :
    Calls Try.prog 44 #[.pointer (some p), .pointer (some q), .pointer (some r)] w fun e w' => e = .returned (.int .u64 (opV .u64 .i64 64 10 a b)) ∧ ∃ n, w' = w.drewN n := by
  go_enter Try.func44, Try.ntmps44
  go_wp2
  go_quiet (fail)
  go_wp2
  go_ret
  exact ⟨rfl, ⟨_, rfl⟩⟩

theorem cu64_11 (p q r : Addr) (a b : Int) (w : World) (hp : w.cell? p = some (.int .u64 a)) (hq : w.cell? q = some (.int .u64 b)) (hr : w.cell? r = some (.int .u64 64)) (ha0 : 0 ≤ a) (ha1 : a ≤ 18446744073709551615) (hb0 : 0 ≤ b) (hb1 : b ≤ 18446744073709551615) :
    Calls Try.prog 45 #[.pointer (some p), .pointer (some q), .pointer (some r)] w fun e w' => e = .returned (.int .u64 (opV .u64 .i64 64 11 a b)) ∧ ∃ n, w' = w.drewN n := by
  go_enter Try.func45, Try.ntmps45
  go_wp2
  go_quiet (fail)
  go_wp2
  go_ret
  refine ⟨?_, ⟨_, rfl⟩⟩
  have e : wrap64 a = IntKind.i64.wrap a := by unfold wrap64; rw [IntKind.wrap_i64]
  show _ = Ending.returned (.int .u64 (IntKind.u64.wrap (IntKind.i64.wrap a / 2 ^ (b % 64).toNat)))
  rw [← e]
  rfl

theorem cu64_12 (p q r : Addr) (a b : Int) (w : World) (hp : w.cell? p = some (.int .u64 a)) (hq : w.cell? q = some (.int .u64 b)) (hr : w.cell? r = some (.int .u64 64)) (ha0 : 0 ≤ a) (ha1 : a ≤ 18446744073709551615) (hb0 : 0 ≤ b) (hb1 : b ≤ 18446744073709551615) :
    Calls Try.prog 46 #[.pointer (some q)] w fun e w' => e = .returned (.int .u64 (opV .u64 .i64 64 12 a b)) ∧ ∃ n, w' = w.drewN n := by
  go_enter Try.func46, Try.ntmps46
  go_wp2
  go_ret
  exact ⟨rfl, ⟨0, rfl⟩⟩

theorem cu64_13 (p q r : Addr) (a b : Int) (w : World) (hp : w.cell? p = some (.int .u64 a)) (hq : w.cell? q = some (.int .u64 b)) (hr : w.cell? r = some (.int .u64 64)) (ha0 : 0 ≤ a) (ha1 : a ≤ 18446744073709551615) (hb0 : 0 ≤ b) (hb1 : b ≤ 18446744073709551615) :
    Calls Try.prog 47 #[.pointer (some p)] w fun e w' => e = .returned (.int .u64 (opV .u64 .i64 64 13 a b)) ∧ ∃ n, w' = w.drewN n := by
  go_enter Try.func47, Try.ntmps47
  go_wp2
  go_ret
  exact ⟨rfl, ⟨0, rfl⟩⟩

end Go.Proofs.Ytlfgddljmcgggaa
