/- The closures of alu.do. A map that is the newest block, known whole, its keys small numbers: a new key, a look-up. Numbers gathered bit by bit: plain facts, no program. -/
import Derived.Test.YtbfegghkipoppaaProg
import Derived.WalkKit
import Derived.IntWalk
import Derived.Lib.Hide
import Derived.Deep.QuietTactic
import Derived.BigQuiet
import Derived.Deep.Draws
import Derived.WalkLawsBesides
import Derived.ProofKit
import Derived.Laws.BitsAllLaws
import Derived.Laws.BitsLemmas
namespace Go.Proofs.Ytbfegghkipoppaa
set_option maxRecDepth 100000
open Go.RowKit
set_option linter.unusedVariables false

/-- What operator i makes of two numbers of kind k (signed: s; so many bits: sz). -/
def opV (k s : IntKind) (sz : Int) (i : Nat) (a b : Int) : Int :=
  match i with
  | 1 => k.wrap (a + b)
  | 2 => k.wrap (a - b)
  | 3 => k.wrap (a * b)
  | 4 => a / b
  | 5 => a % b
  | 6 => bits BinOp.and k a b
  | 7 => bits BinOp.or k a b
  | 8 => bits BinOp.xor k a b
  | 9 => k.wrap (a * 2 ^ (b % sz).toNat)
  | 10 => a / 2 ^ (b % sz).toNat
  | 11 => k.wrap (s.wrap a / 2 ^ (b % sz).toNat)
  | 12 => b
  | 13 => k.wrap (-a)
  | _ => 0

theorem cu32_1 (p q r : Addr) (a b : Int) (w : World) (hp : w.cell? p = some (.int .u32 a)) (hq : w.cell? q = some (.int .u32 b)) (hr : w.cell? r = some (.int .u32 32)) (ha0 : 0 ≤ a) (ha1 : a ≤ 4294967295) (hb0 : 0 ≤ b) (hb1 : b ≤ 4294967295) :
    Calls Try.prog 74 #[.pointer (some p), .pointer (some q)] w fun e w' => e = .returned (.int .u32 (opV .u32 .i32 32 1 a b)) ∧ ∃ n, w' = w.drewN n := by
  go_enter Try.func74, Try.ntmps74
  go_wp2
  go_ret
  exact ⟨rfl, ⟨0, rfl⟩⟩

theorem cu32_2 (p q r : Addr) (a b : Int) (w : World) (hp : w.cell? p = some (.int .u32 a)) (hq : w.cell? q = some (.int .u32 b)) (hr : w.cell? r = some (.int .u32 32)) (ha0 : 0 ≤ a) (ha1 : a ≤ 4294967295) (hb0 : 0 ≤ b) (hb1 : b ≤ 4294967295) :
    Calls Try.prog 75 #[.pointer (some p), .pointer (some q)] w fun e w' => e = .returned (.int .u32 (opV .u32 .i32 32 2 a b)) ∧ ∃ n, w' = w.drewN n := by
  go_enter Try.func75, Try.ntmps75
  go_wp2
  go_ret
  exact ⟨rfl, ⟨0, rfl⟩⟩

theorem cu32_3 (p q r : Addr) (a b : Int) (w : World) (hp : w.cell? p = some (.int .u32 a)) (hq : w.cell? q = some (.int .u32 b)) (hr : w.cell? r = some (.int .u32 32)) (ha0 : 0 ≤ a) (ha1 : a ≤ 4294967295) (hb0 : 0 ≤ b) (hb1 : b ≤ 4294967295) :
    Calls Try.prog 76 #[.pointer (some p), .pointer (some q)] w fun e w' => e = .returned (.int .u32 (opV .u32 .i32 32 3 a b)) ∧ ∃ n, w' = w.drewN n := by
  go_enter Try.func76, Try.ntmps76
  go_wp2
  go_ret
  exact ⟨rfl, ⟨0, rfl⟩⟩

theorem cu32_4 (p q r : Addr) (a b : Int) (w : World) (hp : w.cell? p = some (.int .u32 a)) (hq : w.cell? q = some (.int .u32 b)) (hr : w.cell? r = some (.int .u32 32)) (ha0 : 0 ≤ a) (ha1 : a ≤ 4294967295) (hb0 : 0 ≤ b) (hb1 : b ≤ 4294967295) (hb : 1 ≤ b) :
    Calls Try.prog 77 #[.pointer (some p), .pointer (some q)] w fun e w' => e = .returned (.int .u32 (opV .u32 .i32 32 4 a b)) ∧ ∃ n, w' = w.drewN n := by
  go_enter Try.func77, Try.ntmps77
  go_wp2
  go_ret
  exact ⟨rfl, ⟨0, rfl⟩⟩

theorem cu32_5 (p q r : Addr) (a b : Int) (w : World) (hp : w.cell? p = some (.int .u32 a)) (hq : w.cell? q = some (.int .u32 b)) (hr : w.cell? r = some (.int .u32 32)) (ha0 : 0 ≤ a) (ha1 : a ≤ 4294967295) (hb0 : 0 ≤ b) (hb1 : b ≤ 4294967295) (hb : 1 ≤ b) :
    Calls Try.prog 78 #[.pointer (some p), .pointer (some q)] w fun e w' => e = .returned (.int .u32 (opV .u32 .i32 32 5 a b)) ∧ ∃ n, w' = w.drewN n := by
  go_enter Try.func78, Try.ntmps78
  go_wp2
  go_ret
  exact ⟨rfl, ⟨0, rfl⟩⟩

theorem cu32_6 (p q r : Addr) (a b : Int) (w : World) (hp : w.cell? p = some (.int .u32 a)) (hq : w.cell? q = some (.int .u32 b)) (hr : w.cell? r = some (.int .u32 32)) (ha0 : 0 ≤ a) (ha1 : a ≤ 4294967295) (hb0 : 0 ≤ b) (hb1 : b ≤ 4294967295) :
    Calls Try.prog 79 #[.pointer (some p), .pointer (some q)] w fun e w' => e = .returned (.int .u32 (opV .u32 .i32 32 6 a b)) ∧ ∃ n, w' = w.drewN n := by
  go_enter Try.func79, Try.ntmps79
  go_wp2
  go_ret
  exact ⟨rfl, ⟨0, rfl⟩⟩

theorem cu32_7 (p q r : Addr) (a b : Int) (w : World) (hp : w.cell? p = some (.int .u32 a)) (hq : w.cell? q = some (.int .u32 b)) (hr : w.cell? r = some (.int .u32 32)) (ha0 : 0 ≤ a) (ha1 : a ≤ 4294967295) (hb0 : 0 ≤ b) (hb1 : b ≤ 4294967295) :
    Calls Try.prog 80 #[.pointer (some p), .pointer (some q)] w fun e w' => e = .returned (.int .u32 (opV .u32 .i32 32 7 a b)) ∧ ∃ n, w' = w.drewN n := by
  go_enter Try.func80, Try.ntmps80
  go_wp2
  go_ret
  exact ⟨rfl, ⟨0, rfl⟩⟩

theorem cu32_8 (p q r : Addr) (a b : Int) (w : World) (hp : w.cell? p = some (.int .u32 a)) (hq : w.cell? q = some (.int .u32 b)) (hr : w.cell? r = some (.int .u32 32)) (ha0 : 0 ≤ a) (ha1 : a ≤ 4294967295) (hb0 : 0 ≤ b) (hb1 : b ≤ 4294967295) :
    Calls Try.prog 81 #[.pointer (some p), .pointer (some q)] w fun e w' => e = .returned (.int .u32 (opV .u32 .i32 32 8 a b)) ∧ ∃ n, w' = w.drewN n := by
  go_enter Try.func81, Try.ntmps81
  go_wp2
  go_ret
  exact ⟨rfl, ⟨0, rfl⟩⟩

theorem cu32_9 (p q r : Addr) (a b : Int) (w : World) (hp : w.cell? p = some (.int .u32 a)) (hq : w.cell? q = some (.int .u32 b)) (hr : w.cell? r = some (.int .u32 32)) (ha0 : 0 ≤ a) (ha1 : a ≤ 4294967295) (hb0 : 0 ≤ b) (hb1 : b ≤ 4294967295) :
    Calls Try.prog 82 #[.pointer (some p), .pointer (some q), .pointer (some r)] w fun e w' => e = .returned (.int .u32 (opV .u32 .i32 32 9 a b)) ∧ ∃ n, w' = w.drewN n := by
  go_enter Try.func82, Try.ntmps82
  go_wp2
  go_quiet (fail)
  go_wp2
  go_ret
  exact ⟨rfl, ⟨_, rfl⟩⟩

theorem cu32_10 (p q r : Addr) (a b : Int) (w : World) (hp : w.cell? p = some (.int .u32 a)) (hq : w.cell? q = some (.int .u32 b)) (hr : w.cell? r = some (.int .u32 32)) (ha0 : 0 ≤ a) (ha1 : a ≤ 4294967295) (hb0 : 0 ≤ b) (hb1 : b ≤ 4294967295) :
    Calls Try.prog 83 #[.pointer (some p), .pointer (some q), .pointer (some r)] w fun e w' => e = .returned (.int .u32 (opV .u32 .i32 32 10 a b)) ∧ ∃ n, w' = w.drewN n := by
  go_enter Try.func83, Try.ntmps83
  go_wp2
  go_quiet (fail)
  go_wp2
  go_ret
  exact ⟨rfl, ⟨_, rfl⟩⟩

theorem cu32_11 (p q r : Addr) (a b : Int) (w : World) (hp : w.cell? p = some (.int .u32 a)) (hq : w.cell? q = some (.int .u32 b)) (hr : w.cell? r = some (.int .u32 32)) (ha0 : 0 ≤ a) (ha1 : a ≤ 4294967295) (hb0 : 0 ≤ b) (hb1 : b ≤ 4294967295) :
    Calls Try.prog 84 #[.pointer (some p), .pointer (some q), .pointer (some r)] w fun e w' => e = .returned (.int .u32 (opV .u32 .i32 32 11 a b)) ∧ ∃ n, w' = w.drewN n := by
  go_enter Try.func84, Try.ntmps84
  go_wp2
  go_quiet (fail)
  go_wp2
  go_ret
  refine ⟨?_, ⟨_, rfl⟩⟩
  have e : wrap32 a = IntKind.i32.wrap a := by unfold wrap32; rw [IntKind.wrap_i32]
  show _ = Ending.returned (.int .u32 (IntKind.u32.wrap (IntKind.i32.wrap a / 2 ^ (b % 32).toNat)))
  rw [← e]
  rfl

theorem cu32_12 (p q r : Addr) (a b : Int) (w : World) (hp : w.cell? p = some (.int .u32 a)) (hq : w.cell? q = some (.int .u32 b)) (hr : w.cell? r = some (.int .u32 32)) (ha0 : 0 ≤ a) (ha1 : a ≤ 4294967295) (hb0 : 0 ≤ b) (hb1 : b ≤ 4294967295) :
    Calls Try.prog 85 #[.pointer (some q)] w fun e w' => e = .returned (.int .u32 (opV .u32 .i32 32 12 a b)) ∧ ∃ n, w' = w.drewN n := by
  go_enter Try.func85, Try.ntmps85
  go_wp2
  go_ret
  exact ⟨rfl, ⟨0, rfl⟩⟩

theorem cu32_13 (p q r : Addr) (a b : Int) (w : World) (hp : w.cell? p = some (.int .u32 a)) (hq : w.cell? q = some (.int .u32 b)) (hr : w.cell? r = some (.int .u32 32)) (ha0 : 0 ≤ a) (ha1 : a ≤ 4294967295) (hb0 : 0 ≤ b) (hb1 : b ≤ 4294967295) :
    Calls Try.prog 86 #[.pointer (some p)] w fun e w' => e = .returned (.int .u32 (opV .u32 .i32 32 13 a b)) ∧ ∃ n, w' = w.drewN n := by
  go_enter Try.func86, Try.ntmps86
  go_wp2
  go_ret
  exact ⟨rfl, ⟨0, rfl⟩⟩

theorem cu64_1 (p q r : Addr) (a b : Int) (w : World) (hp : w.cell? p = some (.int .u64 a)) (hq : w.cell? q = some (.int .u64 b)) (hr : w.cell? r = some (.int .u64 64)) (ha0 : 0 ≤ a) (ha1 : a ≤ 18446744073709551615) (hb0 : 0 ≤ b) (hb1 : b ≤ 18446744073709551615) :
    Calls Try.prog 87 #[.pointer (some p), .pointer (some q)] w fun e w' => e = .returned (.int .u64 (opV .u64 .i64 64 1 a b)) ∧ ∃ n, w' = w.drewN n := by
  go_enter Try.func87, Try.ntmps87
  go_wp2
  go_ret
  exact ⟨rfl, ⟨0, rfl⟩⟩

theorem cu64_2 (p q r : Addr) (a b : Int) (w : World) (hp : w.cell? p = some (.int .u64 a)) (hq : w.cell? q = some (.int .u64 b)) (hr : w.cell? r = some (.int .u64 64)) (ha0 : 0 ≤ a) (ha1 : a ≤ 18446744073709551615) (hb0 : 0 ≤ b) (hb1 : b ≤ 18446744073709551615) :
    Calls Try.prog 88 #[.pointer (some p), .pointer (some q)] w fun e w' => e = .returned (.int .u64 (opV .u64 .i64 64 2 a b)) ∧ ∃ n, w' = w.drewN n := by
  go_enter Try.func88, Try.ntmps88
  go_wp2
  go_ret
  exact ⟨rfl, ⟨0, rfl⟩⟩

theorem cu64_3 (p q r : Addr) (a b : Int) (w : World) (hp : w.cell? p = some (.int .u64 a)) (hq : w.cell? q = some (.int .u64 b)) (hr : w.cell? r = some (.int .u64 64)) (ha0 : 0 ≤ a) (ha1 : a ≤ 18446744073709551615) (hb0 : 0 ≤ b) (hb1 : b ≤ 18446744073709551615) :
    Calls Try.prog 89 #[.pointer (some p), .pointer (some q)] w fun e w' => e = .returned (.int .u64 (opV .u64 .i64 64 3 a b)) ∧ ∃ n, w' = w.drewN n := by
  go_enter Try.func89, Try.ntmps89
  go_wp2
  go_ret
  exact ⟨rfl, ⟨0, rfl⟩⟩

theorem cu64_4 (p q r : Addr) (a b : Int) (w : World) (hp : w.cell? p = some (.int .u64 a)) (hq : w.cell? q = some (.int .u64 b)) (hr : w.cell? r = some (.int .u64 64)) (ha0 : 0 ≤ a) (ha1 : a ≤ 18446744073709551615) (hb0 : 0 ≤ b) (hb1 : b ≤ 18446744073709551615) (hb : 1 ≤ b) :
    Calls Try.prog 90 #[.pointer (some p), .pointer (some q)] w fun e w' => e = .returned (.int .u64 (opV .u64 .i64 64 4 a b)) ∧ ∃ n, w' = w.drewN n := by
  go_enter Try.func90, Try.ntmps90
  go_wp2
  go_ret
  exact ⟨rfl, ⟨0, rfl⟩⟩

theorem cu64_5 (p q r : Addr) (a b : Int) (w : World) (hp : w.cell? p = some (.int .u64 a)) (hq : w.cell? q = some (.int .u64 b)) (hr : w.cell? r = some (.int .u64 64)) (ha0 : 0 ≤ a) (ha1 : a ≤ 18446744073709551615) (hb0 : 0 ≤ b) (hb1 : b ≤ 18446744073709551615) (hb : 1 ≤ b) :
    Calls Try.prog 91 #[.pointer (some p), .pointer (some q)] w fun e w' => e = .returned (.int .u64 (opV .u64 .i64 64 5 a b)) ∧ ∃ n, w' = w.drewN n := by
  go_enter Try.func91, Try.ntmps91
  go_wp2
  go_ret
  exact ⟨rfl, ⟨0, rfl⟩⟩

theorem cu64_6 (p q r : Addr) (a b : Int) (w : World) (hp : w.cell? p = some (.int .u64 a)) (hq : w.cell? q = some (.int .u64 b)) (hr : w.cell? r = some (.int .u64 64)) (ha0 : 0 ≤ a) (ha1 : a ≤ 18446744073709551615) (hb0 : 0 ≤ b) (hb1 : b ≤ 18446744073709551615) :
    Calls Try.prog 92 #[.pointer (some p), .pointer (some q)] w fun e w' => e = .returned (.int .u64 (opV .u64 .i64 64 6 a b)) ∧ ∃ n, w' = w.drewN n := by
  go_enter Try.func92, Try.ntmps92
  go_wp2
  go_ret
  exact ⟨rfl, ⟨0, rfl⟩⟩

theorem cu64_7 (p q r : Addr) (a b : Int) (w : World) (hp : w.cell? p = some (.int .u64 a)) (hq : w.cell? q = some (.int .u64 b)) (hr : w.cell? r = some (.int .u64 64)) (ha0 : 0 ≤ a) (ha1 : a ≤ 18446744073709551615) (hb0 : 0 ≤ b) (hb1 : b ≤ 18446744073709551615) :
    Calls Try.prog 93 #[.pointer (some p), .pointer (some q)] w fun e w' => e = .returned (.int .u64 (opV .u64 .i64 64 7 a b)) ∧ ∃ n, w' = w.drewN n := by
  go_enter Try.func93, Try.ntmps93
  go_wp2
  go_ret
  exact ⟨rfl, ⟨0, rfl⟩⟩

theorem cu64_8 (p q r : Addr) (a b : Int) (w : World) (hp : w.cell? p = some (.int .u64 a)) (hq : w.cell? q = some (.int .u64 b)) (hr : w.cell? r = some (.int .u64 64)) (ha0 : 0 ≤ a) (ha1 : a ≤ 18446744073709551615) (hb0 : 0 ≤ b) (hb1 : b ≤ 18446744073709551615) :
    Calls Try.prog 94 #[.pointer (some p), .pointer (some q)] w fun e w' => e = .returned (.int .u64 (opV .u64 .i64 64 8 a b)) ∧ ∃ n, w' = w.drewN n := by
  go_enter Try.func94, Try.ntmps94
  go_wp2
  go_ret
  exact ⟨rfl, ⟨0, rfl⟩⟩

theorem cu64_9 (p q r : Addr) (a b : Int) (w : World) (hp : w.cell? p = some (.int .u64 a)) (hq : w.cell? q = some (.int .u64 b)) (hr : w.cell? r = some (.int .u64 64)) (ha0 : 0 ≤ a) (ha1 : a ≤ 18446744073709551615) (hb0 : 0 ≤ b) (hb1 : b ≤ 18446744073709551615) :
    Calls Try.prog 95 #[.pointer (some p), .pointer (some q), .pointer (some r)] w fun e w' => e = .returned (.int .u64 (opV .u64 .i64 64 9 a b)) ∧ ∃ n, w' = w.drewN n := by
  go_enter Try.func95, Try.ntmps95
  go_wp2
  go_quiet (fail)
  go_wp2
  go_ret
  exact ⟨rfl, ⟨_, rfl⟩⟩

theorem cu64_10 (p q r : Addr) (a b : Int) (w : World) (hp : w.cell? p = some (.int .u64 a)) (hq : w.cell? q = some (.int .u64 b)) (hr : w.cell? r = some (.int .u64 64)) (ha0 : 0 ≤ a) (ha1 : a ≤ 18446744073709551615) (hb0 : 0 ≤ b) (hb1 : b ≤ 18446744073709551615) :
    Calls Try.prog 96 #[.pointer (some p), .pointer (some q), .pointer (some r)] w fun e w' => e = .returned (.int .u64 (opV .u64 .i64 64 10 a b)) ∧ ∃ n, w' = w.drewN n := by
  go_enter Try.func96, Try.ntmps96
  go_wp2
  go_quiet (fail)
  go_wp2
  go_ret
  exact ⟨rfl, ⟨_, rfl⟩⟩

theorem cu64_11 (p q r : Addr) (a b : Int) (w : World) (hp : w.cell? p = some (.int .u64 a)) (hq : w.cell? q = some (.int .u64 b)) (hr : w.cell? r = some (.int .u64 64)) (ha0 : 0 ≤ a) (ha1 : a ≤ 18446744073709551615) (hb0 : 0 ≤ b) (hb1 : b ≤ 18446744073709551615) :
    Calls Try.prog 97 #[.pointer (some p), .pointer (some q), .pointer (some r)] w fun e w' => e = .returned (.int .u64 (opV .u64 .i64 64 11 a b)) ∧ ∃ n, w' = w.drewN n := by
  go_enter Try.func97, Try.ntmps97
  go_wp2
  go_quiet (fail)
  go_wp2
  go_ret
  refine ⟨?_, ⟨_, rfl⟩⟩
  have e : wrap64 a = IntKind.i64.wrap a := by unfold wrap64; rw [IntKind.wrap_i64]
  show _ = Ending.returned (.int .u64 (IntKind.u64.wrap (IntKind.i64.wrap a / 2 ^ (b % 64).toNat)))
  rw [← e]
  rfl

theorem cu64_12 (p q r : Addr) (a b : Int) (w : World) (hp : w.cell? p = some (.int .u64 a)) (hq : w.cell? q = some (.int .u64 b)) (hr : w.cell? r = some (.int .u64 64)) (ha0 : 0 ≤ a) (ha1 : a ≤ 18446744073709551615) (hb0 : 0 ≤ b) (hb1 : b ≤ 18446744073709551615) :
    Calls Try.prog 98 #[.pointer (some q)] w fun e w' => e = .returned (.int .u64 (opV .u64 .i64 64 12 a b)) ∧ ∃ n, w' = w.drewN n := by
  go_enter Try.func98, Try.ntmps98
  go_wp2
  go_ret
  exact ⟨rfl, ⟨0, rfl⟩⟩

theorem cu64_13 (p q r : Addr) (a b : Int) (w : World) (hp : w.cell? p = some (.int .u64 a)) (hq : w.cell? q = some (.int .u64 b)) (hr : w.cell? r = some (.int .u64 64)) (ha0 : 0 ≤ a) (ha1 : a ≤ 18446744073709551615) (hb0 : 0 ≤ b) (hb1 : b ≤ 18446744073709551615) :
    Calls Try.prog 99 #[.pointer (some p)] w fun e w' => e = .returned (.int .u64 (opV .u64 .i64 64 13 a b)) ∧ ∃ n, w' = w.drewN n := by
  go_enter Try.func99, Try.ntmps99
  go_wp2
  go_ret
  exact ⟨rfl, ⟨0, rfl⟩⟩

end Go.Proofs.Ytbfegghkipoppaa
namespace Go.Proofs.Ytbfegghkipoppaa
set_option maxRecDepth 100000
open Go.RowKit

theorem cell4 (w : World) (x y z : Value) (t : TypeId) (o : Obj) :
    ((((w.alloc (.cells #[x] t)).alloc (.cells #[y] t)).alloc (.cells #[z] t)).alloc o).cell? ⟨w.heap.size, 0, none⟩ = some x ∧
    ((((w.alloc (.cells #[x] t)).alloc (.cells #[y] t)).alloc (.cells #[z] t)).alloc o).cell? ⟨w.heap.size + 1, 0, none⟩ = some y ∧
    ((((w.alloc (.cells #[x] t)).alloc (.cells #[y] t)).alloc (.cells #[z] t)).alloc o).cell? ⟨w.heap.size + 1 + 1, 0, none⟩ = some z := by
  refine ⟨?_, ?_, ?_⟩
  · rw [cell_of_row _ w.heap.size 0 #[x] t (0, 0)]
    · rfl
    · rw [Below.heap_alloc _ _ _ (by simp; omega), Below.heap_alloc _ _ _ (by simp; omega), Below.heap_alloc _ _ _ (by simp)]; exact heap_alloc_new _ _
  · rw [cell_of_row _ (w.heap.size + 1) 0 #[y] t (0, 0)]
    · rfl
    · rw [Below.heap_alloc _ _ _ (by simp), Below.heap_alloc _ _ _ (by simp)]
      have := heap_alloc_new (w.alloc (.cells #[x] t)) (.cells #[y] t)
      rwa [World.size_alloc] at this
  · rw [cell_of_row _ (w.heap.size + 1 + 1) 0 #[z] t (0, 0)]
    · rfl
    · rw [Below.heap_alloc _ _ _ (by simp)]
      have := heap_alloc_new ((w.alloc (.cells #[x] t)).alloc (.cells #[y] t)) (.cells #[z] t)
      rwa [World.size_alloc, World.size_alloc] at this
theorem chk {P : Program} {kt : TypeId} (hk : P.underlying kt = some (.int .u8)) (b : Bool) (k : Int) (w : World) : (Instr.checkKey b 10000 kt (.int .u8 k)).run P w = .ok () w := by
  show (Instr.checkKey b (9999 + 1) kt (.int .u8 k)).run P w = _
  unfold Instr.checkKey
  simp [run_underlying hk]
theorem fnd {P : Program} {kt : TypeId} (hk : P.underlying kt = some (.int .u8)) (es : List MapEntry) (k : Int) (w : World) (r : Option (Nat × Value)) (hf : Instr.findNow (.int .u8) (.int .u8 k) es 0 = some r) : (Instr.findKey kt (.int .u8 k) es).run P w = .ok r w := by
  unfold Instr.findKey
  simp [run_underlying hk, hf]
theorem upd_last {P : Program} {t kt et : TypeId} (ht : P.underlying t = some (.map kt et)) (hk : P.underlying kt = some (.int .u8)) (W : World) (n : Nat) (hn : n = W.heap.size) (es : List MapEntry) (c : Nat) (k : Int) (v : Value)
    (hf : Instr.findNow (.int .u8) (.int .u8 k) es 0 = some none) :
    (Instr.mapUpdate t (.map (some n)) (.int .u8 k) v).run P (W.alloc (.map es.toArray c)) = .ok () (W.alloc (.map (es ++ [({ key := .int .u8 k, val := v, born := c } : MapEntry)]).toArray (c + 1))) := by
  subst hn
  have hb : (W.alloc (.map es.toArray c)).heap[W.heap.size]? = some (.map es.toArray c) := heap_alloc_new W _
  have hp : ∀ o, ({ W.alloc (.map es.toArray c) with heap := (W.alloc (.map es.toArray c)).heap.setIfInBounds W.heap.size o } : World) = W.alloc o := by
    intro o
    show ({ W with heap := (W.heap.push (.map es.toArray c)).setIfInBounds W.heap.size o } : World) = { W with heap := W.heap.push o }
    congr 1
    apply Array.ext_getElem?
    intro i
    rw [Array.getElem?_setIfInBounds, Array.getElem?_push, Array.getElem?_push]
    by_cases h : W.heap.size = i
    · subst h
      simp
    · rw [if_neg h, if_neg (by omega), if_neg (by omega)]
  simp [Instr.mapUpdate, run_underlying ht, MapKept.run_getObj_map hb, chk hk, fnd hk _ _ _ _ hf, MapKept.run_setObj_map _ hb, Result.andThen]
  exact hp _
theorem look_hit {P : Program} {t kt et : TypeId} (ht : P.underlying t = some (.map kt et)) (hk : P.underlying kt = some (.int .u8)) (W : World) (n : Nat) (hn : n = W.heap.size) (es : List MapEntry) (c : Nat) (k : Int) (i : Nat) (v : Value)
    (hf : Instr.findNow (.int .u8) (.int .u8 k) es 0 = some (some (i, v))) :
    (Instr.lookup t (.map (some n)) (.int .u8 k) true).run P (W.alloc (.map es.toArray c)) = .ok (.tuple #[v, .bool true]) (W.alloc (.map es.toArray c)) := by
  subst hn
  have hb : (W.alloc (.map es.toArray c)).heap[W.heap.size]? = some (.map es.toArray c) := heap_alloc_new W _
  simp [Instr.lookup, run_underlying ht, MapKept.run_getObj_map hb, chk hk, fnd hk _ _ _ _ hf]
theorem look_miss {P : Program} {t kt et : TypeId} (ht : P.underlying t = some (.map kt et)) (hk : P.underlying kt = some (.int .u8)) (W : World) (n : Nat) (hn : n = W.heap.size) (es : List MapEntry) (c : Nat) (k : Int) (z : Value) (hz : ∀ w, (zeroValue et).run P w = .ok z w)
    (hf : Instr.findNow (.int .u8) (.int .u8 k) es 0 = some none) :
    (Instr.lookup t (.map (some n)) (.int .u8 k) true).run P (W.alloc (.map es.toArray c)) = .ok (.tuple #[z, .bool false]) (W.alloc (.map es.toArray c)) := by
  subst hn
  have hb : (W.alloc (.map es.toArray c)).heap[W.heap.size]? = some (.map es.toArray c) := heap_alloc_new W _
  simp [Instr.lookup, run_underlying ht, MapKept.run_getObj_map hb, chk hk, fnd hk _ _ _ _ hf, hz]
end Go.Proofs.Ytbfegghkipoppaa
namespace Go.Proofs.Ytbfegghkipoppaa
set_option maxRecDepth 100000
set_option linter.unusedVariables false

/-- The number whose bits below n are f's. -/
def gather (f : Nat → Bool) : Nat → Nat
  | 0 => 0
  | n + 1 => if f n then gather f n ||| 2 ^ n else gather f n
theorem gather_bit (f : Nat → Bool) : ∀ (n j : Nat), (gather f n).testBit j = (decide (j < n) && f j)
  | 0, j => by simp [gather]
  | n + 1, j => by
    have ih := gather_bit f n j
    by_cases hf : f n = true
    · simp only [gather, hf, if_true, Nat.testBit_or, ih, Nat.testBit_two_pow]
      by_cases h : n = j
      · subst h; simp [hf]
      · have e : (decide (j < n + 1)) = decide (j < n) := by
          by_cases h2 : j < n
          · simp [h2]; omega
          · simp [h2]; omega
        simp [h, e]
    · simp only [gather, hf]
      rw [if_neg (by simp), ih]
      by_cases h : n = j
      · subst h; simp [hf]
      · have e : (decide (j < n + 1)) = decide (j < n) := by
          by_cases h2 : j < n
          · simp [h2]; omega
          · simp [h2]; omega
        rw [e]
theorem gather_lt (f : Nat → Bool) : ∀ n, gather f n < 2 ^ n
  | 0 => by simp [gather]
  | n + 1 => by
    have ih := gather_lt f n
    have h2 : 2 ^ n < 2 ^ (n + 1) := Nat.pow_lt_pow_right (by omega) (by omega)
    simp only [gather]
    split
    · exact Nat.or_lt_two_pow (by omega) h2
    · omega
/-- A number below 2^n is what its bits gather. -/
theorem gather_of (f : Nat → Bool) (n x : Nat) (hx : x < 2 ^ n) (h : ∀ j, j < n → x.testBit j = f j) : gather f n = x := by
  apply Nat.eq_of_testBit_eq
  intro j
  rw [gather_bit]
  by_cases hj : j < n
  · simp [hj, h j hj]
  · simp [hj]
    exact Nat.testBit_lt_two_pow (Nat.lt_of_lt_of_le hx (Nat.pow_le_pow_right (by omega) (by omega : n ≤ j)))

theorem gather_and (a b : Nat) (ha : a < 2 ^ 64) : gather (fun j => a.testBit j && b.testBit j) 64 = a &&& b :=
  gather_of _ _ _ (Nat.lt_of_le_of_lt Nat.and_le_left ha) (fun j _ => by rw [Nat.testBit_and])
theorem gather_or (a b : Nat) (ha : a < 2 ^ 64) (hb : b < 2 ^ 64) : gather (fun j => a.testBit j || b.testBit j) 64 = a ||| b :=
  gather_of _ _ _ (Nat.or_lt_two_pow ha hb) (fun j _ => by rw [Nat.testBit_or])
theorem gather_xor (a b : Nat) (ha : a < 2 ^ 64) (hb : b < 2 ^ 64) : gather (fun j => a.testBit j != b.testBit j) 64 = a ^^^ b :=
  gather_of _ _ _ (Nat.xor_lt_two_pow ha hb) (fun j _ => by rw [Nat.testBit_xor])

/-- A bit of a number that is moved: by bits up (below nought: down), others coming in. -/
def movedBit (a : Nat) (by' : Int) (size : Nat) (inn : Bool) (k : Nat) : Bool :=
  if 0 ≤ (k : Int) - by' ∧ (k : Int) - by' < size then a.testBit ((k : Int) - by').toNat else inn
def movedN (a : Nat) (by' : Int) (size : Nat) (inn : Bool) (n : Nat) : Nat := gather (movedBit a by' size inn) n

theorem moved_up (a s size : Nat) (hs : s < size) : movedN a s size false size = a * 2 ^ s % 2 ^ size := by
  apply gather_of
  · exact Nat.mod_lt _ (Nat.pow_pos (by omega))
  · intro j hj
    rw [Nat.testBit_mod_two_pow, Nat.mul_comm, Nat.testBit_two_pow_mul]
    unfold movedBit
    by_cases h : s ≤ j
    · rw [if_pos (by omega)]
      simp [hj, h, show ((j : Int) - (s : Int)).toNat = j - s by omega]
    · rw [if_neg (by omega)]
      simp [h]
theorem moved_down (a s size : Nat) (ha : a < 2 ^ size) (hs : s < size) : movedN a (-(s : Int)) size false size = a / 2 ^ s := by
  apply gather_of
  · exact Nat.lt_of_le_of_lt (Nat.div_le_self _ _) ha
  · intro j hj
    rw [Nat.testBit_div_two_pow]
    unfold movedBit
    by_cases h : j + s < size
    · rw [if_pos (by omega), show ((j : Int) - -(s : Int)).toNat = j + s by omega, Nat.add_comm]
    · rw [if_neg (by omega)]
      exact Nat.testBit_lt_two_pow (Nat.lt_of_lt_of_le ha (Nat.pow_le_pow_right (by omega) (by omega)))
theorem moved_sign (a s size : Nat) (ha : a < 2 ^ size) (hs : s < size) : movedN a (-(s : Int)) size true size = 2 ^ (size - s) * (2 ^ s - 1) + a / 2 ^ s := by
  have hq : a / 2 ^ s < 2 ^ (size - s) := by
    rw [Nat.div_lt_iff_lt_mul (Nat.pow_pos (by omega)), ← Nat.pow_add, show size - s + s = size by omega]
    exact ha
  apply gather_of
  · have h1 : 2 ^ (size - s) * (2 ^ s - 1) + 2 ^ (size - s) = 2 ^ size := by
      rw [Nat.mul_sub, ← Nat.pow_add, show size - s + s = size by omega, Nat.mul_one]
      have : 2 ^ (size - s) ≤ 2 ^ size := Nat.pow_le_pow_right (by omega) (by omega)
      omega
    omega
  · intro j hj
    rw [Nat.testBit_two_pow_mul_add _ hq]
    unfold movedBit
    by_cases h : j + s < size
    · rw [if_pos (by omega), if_pos (by omega), show ((j : Int) - -(s : Int)).toNat = j + s by omega, Nat.testBit_div_two_pow, Nat.add_comm]
    · rw [if_neg (by omega), if_neg (by omega), Nat.testBit_two_pow_sub_one]
      simp
      omega
end Go.Proofs.Ytbfegghkipoppaa
