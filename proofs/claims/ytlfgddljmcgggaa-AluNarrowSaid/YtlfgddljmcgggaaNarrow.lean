/- The walk of the statement AluNarrow, over this seat's program. -/
import Derived.Test.YtlfgddljmcgggaaLaws
namespace Go.Proofs.Ytlfgddljmcgggaa
open Go.RowKit
set_option linter.unusedVariables false

theorem high_xor (a u : Nat) (ha : a < 18446744073709551616) : (0 : Int) ≤ bits BinOp.xor .u64 (a : Int) (IntKind.u64.wrap (u * 4294967296)) ∧ bits BinOp.xor .u64 (a : Int) (IntKind.u64.wrap (u * 4294967296)) ≤ 18446744073709551615 ∧ bits BinOp.xor .u64 (a : Int) (IntKind.u64.wrap (u * 4294967296)) % 4294967296 = (a : Int) % 4294967296 := by
  have e : IntKind.u64.wrap ((u : Int) * 4294967296) = ((u * 4294967296 % 18446744073709551616 : Nat) : Int) := by
    rw [w64]; omega
  have hl : u * 4294967296 % 18446744073709551616 < 18446744073709551616 := Nat.mod_lt _ (by omega)
  rw [e, u64_xor_nat _ _ ha hl]
  have hx : a ^^^ (u * 4294967296 % 18446744073709551616) < 2 ^ 64 := Nat.xor_lt_two_pow ha hl
  refine ⟨by omega, by omega, ?_⟩
  have : (a ^^^ (u * 4294967296 % 18446744073709551616)) % 2 ^ 32 = a % 2 ^ 32 := by
    rw [Nat.xor_mod_two_pow]
    have : u * 4294967296 % 18446744073709551616 % 2 ^ 32 = 0 := by omega
    rw [this]; simp
  omega
theorem high_add (b u : Nat) (hb : b < 18446744073709551616) : (0 : Int) ≤ IntKind.u64.wrap ((b : Int) + IntKind.u64.wrap (u * 4294967296)) ∧ IntKind.u64.wrap ((b : Int) + IntKind.u64.wrap (u * 4294967296)) ≤ 18446744073709551615 ∧ IntKind.u64.wrap ((b : Int) + IntKind.u64.wrap (u * 4294967296)) % 4294967296 = (b : Int) % 4294967296 := by
  rw [w64, w64]; omega
theorem DoV_low {op a b c d : Int} (h : c % 4294967296 = a % 4294967296) (h' : d % 4294967296 = b % 4294967296) : DoV true op c d = DoV true op a b := by simp [DoV, h, h']
theorem DoE_low {op b d : Int} (h' : d % 4294967296 = b % 4294967296) : DoE true op d = DoE true op b := by simp [DoE, h']
theorem IsV_low {op a b c d : Int} (h : c % 4294967296 = a % 4294967296) (h' : d % 4294967296 = b % 4294967296) : IsV true op c d = IsV true op a b := by simp [IsV, h, h']

set_option maxHeartbeats 400000 in
theorem AluNarrow_walk (a0 : Int) (a1 : Int) (a2 : Int) (a3 : Int) (w0 : (Lit.int .u8 a0).wf = true) (w1 : (Lit.int .u64 a1).wf = true) (w2 : (Lit.int .u64 a2).wf = true) (w3 : (Lit.int .u64 a3).wf = true) (w : World) :
    Calls Try.prog 7 #[.int .u8 a0, .int .u64 a1, .int .u64 a2, .int .u64 a3] w fun e w' => e = .returned (.bool true) ∧ Below w.heap.size w w' := by
  obtain ⟨a, rfl, ha⟩ := u64_ex w1
  obtain ⟨b, rfl, hb⟩ := u64_ex w2
  obtain ⟨u, rfl, hu⟩ := u64_ex w3
  obtain ⟨o1, o2⟩ := u8_bd w0
  clear w0 w2 w3 w1
  obtain ⟨x1, x2, x3⟩ := high_xor a u ha
  obtain ⟨y1, y2, y3⟩ := high_add b u hb
  have hlt : DoV true a0 a b < 4294967296 := by
    have := dVal32_range a0 (a % 4294967296) (b % 4294967296) (by omega) (by omega) (by omega) (by omega)
    simp only [DoV, if_true]; omega
  have hd : decide (DoV true a0 a b < 4294967296) = true := decide_eq_true hlt
  have hV := DoV_low (op := a0) x3 y3
  have hE := DoE_low (op := a0) y3
  have hI := IsV_low (op := a0) x3 y3
  clear x3 y3 hlt
  go_enter Try.func7, Try.ntmps7
  go_wp2_with fail
  refine (awake_any _).mono ?_
  rintro e w1 ⟨rfl, hb1⟩
  go_wp2_with fail
  refine (Do_any true a0 a b _ (by omega) (by omega) (by omega) (by omega)).mono ?_
  rintro e w2 ⟨rfl, hb2⟩
  have hB2 := hb1.trans (hb2.mono hb1.size)
  clear hb1 hb2
  go_wp2_with fail
  refine (Do_lit true a0 _ _ _ _ _ x1 x2 y1 y2 hV hE).mono ?_
  rintro e w3 ⟨rfl, hb3⟩
  have hB3 := hB2.trans (hb3.mono hB2.size)
  clear hB2 hb3
  go_wp2_with fail
  refine (Is_any true a0 a b _ o1 (by omega) (by omega) (by omega) (by omega)).mono ?_
  rintro e w4 ⟨rfl, rfl⟩
  go_wp2_with fail
  refine (Is_lit true a0 _ _ _ _ _ o1 x1 x2 y1 y2 hI rfl).mono ?_
  rintro e w4 ⟨rfl, rfl⟩
  go_wp2_with fail
  go_ret
  exact ⟨rfl, hB3⟩
end Go.Proofs.Ytlfgddljmcgggaa
