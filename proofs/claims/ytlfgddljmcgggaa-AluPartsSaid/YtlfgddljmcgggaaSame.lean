/- The walks of the statements AluSame and AluEdges, over this seat's program. -/
import Derived.Test.YtlfgddljmcgggaaLaws
namespace Go.Proofs.Ytlfgddljmcgggaa
open Go.RowKit
set_option linter.unusedVariables false

set_option maxRecDepth 100000 in
set_option maxHeartbeats 1000000 in
theorem same_any (op : Int) (a b : Nat) (w : World) (o1 : 0 ≤ op) (ha : a < 18446744073709551616) (hb : b < 18446744073709551616) :
    Calls Try.prog 5 #[.int .u8 op, .int .u64 a, .int .u64 b] w fun e w' => e = .returned (.bool true) ∧ Below w.heap.size w w' := by
  go_enter Try.func5, Try.ntmps5
  go_wp2_with fail
  go_loopw [7] (fun i wr => ∃ k : Nat, k ≤ 2 ∧ i = .int .i64 k ∧ Below w.heap.size w wr) (fun i _ => 2 - (intOf i).toNat)
  case atStart => exact ⟨0, by omega, rfl, Below.refl _ _⟩
  case round =>
    obtain ⟨k, hk, rfl, hB⟩ := hrel
    by_cases hlt : k < 2
    · obtain ⟨nar, hnar⟩ : ∃ nar : Bool, ((k : Int) == 1) = nar := ⟨_, rfl⟩
      have hd : decide ((k : Int) < 2) = true := decide_eq_true (by omega)
      go_wp2_with fail
      refine (Do_any nar op a b _ (by omega) (by omega) (by omega) (by omega)).mono ?_
      rintro e w2 ⟨rfl, hb2⟩
      have hB2 := hB.trans (hb2.mono hB.size)
      clear hb2
      go_wp2_with fail
      refine (rDo_any nar op a b _ ha hb).mono ?_
      rintro e w3 ⟨rfl, n, rfl⟩
      go_wp2_with fail
      refine (Is_any nar op a b _ o1 (by omega) (by omega) (by omega) (by omega)).mono ?_
      rintro e w4 ⟨rfl, rfl⟩
      go_wp2_with fail
      refine (rIs_any nar op a b _ o1 ha hb).mono ?_
      rintro e w4 ⟨rfl, rfl⟩
      go_wp2_with fail
      go_roundw
      case rel => exact ⟨k + 1, by omega, by go_num, below_drewN hB2 _⟩
      case measure => simp [intOf]; omega
    · have hd : decide ((k : Int) < 2) = false := decide_eq_false (by omega)
      go_wp2_with fail
      refine (awake_any _).mono ?_
      rintro e w1 ⟨rfl, hb1⟩
      go_wp2_with fail
      go_ret
      exact ⟨rfl, hB.trans (hb1.mono hB.size)⟩

theorem AluSame_walk (a0 : Int) (a1 : Int) (a2 : Int) (w0 : (Lit.int .u8 a0).wf = true) (w1 : (Lit.int .u64 a1).wf = true) (w2 : (Lit.int .u64 a2).wf = true) (w : World) :
    Calls Try.prog 5 #[.int .u8 a0, .int .u64 a1, .int .u64 a2] w fun e w' => e = .returned (.bool true) ∧ Below w.heap.size w w' := by
  obtain ⟨a, rfl, ha⟩ := u64_ex w1
  obtain ⟨b, rfl, hb⟩ := u64_ex w2
  exact same_any a0 a b w (u8_bd w0).1 ha hb
end Go.Proofs.Ytlfgddljmcgggaa
