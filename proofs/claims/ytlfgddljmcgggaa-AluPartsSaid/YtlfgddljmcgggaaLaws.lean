/- The walks of the statements AluDoes and AluSame, over this seat's program. -/
import Derived.Test.YtlfgddljmcgggaaRef2
import Derived.OpenShut
namespace Go.Proofs.Ytlfgddljmcgggaa
open Go.RowKit
set_option linter.unusedVariables false

theorem below_drewN {B : Nat} {a w : World} (h : Below B a w) (n : Nat) : Below B a (w.drewN n) := ⟨h.os, h.tape, h.output, h.size, h.block⟩

theorem Do_lit (nar : Bool) (op a b v e : Int) (w : World) (ha0 : 0 ≤ a) (ha1 : a ≤ 18446744073709551615) (hb0 : 0 ≤ b) (hb1 : b ≤ 18446744073709551615) (hv : DoV nar op a b = v) (he : DoE nar op b = e) :
    Calls Try.prog 9 #[.int .u8 op, .bool nar, .int .u64 a, .int .u64 b] w fun r w' => r = .returned (.tuple #[.int .u64 v, .int .i64 e]) ∧ Below w.heap.size w w' := by
  subst hv he
  exact Do_any nar op a b w ha0 ha1 hb0 hb1
theorem Is_lit (nar : Bool) (op a b : Int) (v : Bool) (e : Int) (w : World) (h0 : 0 ≤ op) (ha0 : 0 ≤ a) (ha1 : a ≤ 18446744073709551615) (hb0 : 0 ≤ b) (hb1 : b ≤ 18446744073709551615) (hv : IsV nar op a b = v) (he : isE op = e) :
    Calls Try.prog 11 #[.int .u8 op, .bool nar, .int .u64 a, .int .u64 b] w fun r w' => r = .returned (.tuple #[.bool v, .int .i64 e]) ∧ w = w' := by
  subst hv he
  exact Is_any nar op a b w h0 ha0 ha1 hb0 hb1

theorem awake_any (w : World) : Calls Try.prog 8 #[] w fun e w' => e = .returned (.bool true) ∧ Below w.heap.size w w' := by
  go_enter Try.func8, Try.ntmps8
  go_wp2_with fail
  refine (Do_lit false 2 3 5 18446744073709551614 0 _ (by decide) (by decide) (by decide) (by decide) (by decide) (by decide)).mono ?_
  rintro e w1 ⟨rfl, hb1⟩
  go_wp2_with fail
  refine (Do_lit true 11 2147483648 33 3221225472 0 _ (by decide) (by decide) (by decide) (by decide) (by decide) (by decide)).mono ?_
  rintro e w2 ⟨rfl, hb2⟩
  have hB2 := hb1.trans (hb2.mono hb1.size)
  clear hb1 hb2
  go_wp2_with fail
  refine (Is_lit true 25 2147483648 0 true 0 _ (by decide) (by decide) (by decide) (by decide) (by decide) (by decide) (by decide)).mono ?_
  rintro e w3 ⟨rfl, rfl⟩
  go_wp2_with fail
  refine (Do_lit false 4 1 0 0 113 _ (by decide) (by decide) (by decide) (by decide) (by decide) (by decide)).mono ?_
  rintro e w3 ⟨rfl, hb3⟩
  have hB3 := hB2.trans (hb3.mono hB2.size)
  clear hb3 hB2
  go_wp2_with fail
  refine (Wide_any _ _).mono ?_
  rintro e w4 ⟨rfl, rfl⟩
  have hw : IntKind.u64.wrap (-1) = 18446744073709551615 := by decide
  rw [hw]
  clear hw
  go_wp2_with fail
  go_ret
  exact ⟨rfl, hB3⟩

theorem u64_ex {n : Int} (h : (Lit.int .u64 n).wf = true) : ∃ k : Nat, n = k ∧ k < 18446744073709551616 := by
  have := bounds_u64 h
  exact ⟨n.toNat, by omega, by omega⟩
theorem u8_bd {n : Int} (h : (Lit.int .u8 n).wf = true) : 0 ≤ n ∧ n ≤ 255 := by have := bounds_u8 h; omega

set_option maxHeartbeats 400000 in
theorem AluDoes_walk (a0 : Int) (a1 : Bool) (a2 : Int) (a3 : Int) (a4 : Int) (w0 : (Lit.int .u8 a0).wf = true) (w2 : (Lit.int .u64 a2).wf = true) (w3 : (Lit.int .u64 a3).wf = true) (w4 : (Lit.int .i64 a4).wf = true) (w : World) :
    Calls Try.prog 3 #[.int .u8 a0, .bool a1, .int .u64 a2, .int .u64 a3, .int .i64 a4] w fun e w' => e = .returned (.bool true) ∧ Below w.heap.size w w' := by
  obtain ⟨a, rfl, ha⟩ := u64_ex w2
  obtain ⟨b, rfl, hb⟩ := u64_ex w3
  obtain ⟨o1, o2⟩ := u8_bd w0
  clear w0 w2 w3 w4
  go_enter Try.func3, Try.ntmps3
  go_wp2_with fail
  refine (awake_any _).mono ?_
  rintro e w1 ⟨rfl, hb1⟩
  go_wp2_with fail
  refine (Do_any a1 a0 a b _ (by omega) (by omega) (by omega) (by omega)).mono ?_
  rintro e w2 ⟨rfl, hb2⟩
  have hB2 := hb1.trans (hb2.mono hb1.size)
  clear hb1 hb2
  go_wp2_with fail
  refine (rDo_any a1 a0 a b _ ha hb).mono ?_
  rintro e w3 ⟨rfl, n, rfl⟩
  go_wp2_with fail
  refine (Is_any a1 a0 a b _ o1 (by omega) (by omega) (by omega) (by omega)).mono ?_
  rintro e w4 ⟨rfl, rfl⟩
  go_wp2_with fail
  refine (rIs_any a1 a0 a b _ o1 ha hb).mono ?_
  rintro e w4 ⟨rfl, rfl⟩
  go_wp2_with fail
  refine (Wide_any _ _).mono ?_
  rintro e w4 ⟨rfl, rfl⟩
  go_wp2_with fail
  refine (rWide_any _ _).mono ?_
  rintro e w4 ⟨rfl, rfl⟩
  go_wp2_with fail
  go_ret
  exact ⟨rfl, below_drewN hB2 _⟩
end Go.Proofs.Ytlfgddljmcgggaa
