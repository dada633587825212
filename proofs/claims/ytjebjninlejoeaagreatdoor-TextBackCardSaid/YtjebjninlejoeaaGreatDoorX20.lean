/- text, the walk: a right instruction's line. -/
import Derived.Test.YtjebjninlejoeaaGreatDoorX19
namespace Go.Proofs.YtjebjninlejoeaaGreatDoor
open Go.RowKit Go.Maps Go.ChangeMaps
set_option linter.unusedVariables false
set_option linter.unusedSimpArgs false
set_option linter.unusedSectionVars false
set_option maxRecDepth 100000

theorem i64_s' : I64 0 := by unfold I64; omega
theorem i64_in {n a b : Int} (h : inI n a b = true) (ha : -2147483648 ≤ a) (hb : b ≤ 2147483647) : I64 n := by
  have := inI_iff.1 h
  unfold I64
  omega
theorem sec_ok {i : IV} (h : secR i = true) : I64 i.src ∧ I64 i.imm := by
  unfold secR at h
  cases hu : i.useImm with
  | true =>
    rw [hu] at h
    simp only [if_true, Bool.and_eq_true, decide_eq_true_eq] at h
    exact ⟨by rw [h.1]; exact i64_s' , i64_in h.2 (by decide) (by decide)⟩
  | false =>
    rw [hu] at h
    simp only [Bool.false_eq_true, if_false, Bool.and_eq_true, decide_eq_true_eq] at h
    exact ⟨i64_in h.1 (by decide) (by decide), by rw [h.2]; exact i64_s'⟩
theorem right_ok {i : IV} (h : rightP i = true) : IvOk i ∧ ((1 ≤ i.op ∧ i.op ≤ 12) ∨ i.op = 13 ∨ i.op = 14 ∨ i.op = 15 ∨ i.op = 16 ∨ (17 ≤ i.op ∧ i.op ≤ 27) ∨ i.op = 28) := by
  unfold rightP at h
  split at h
  · next h1 =>
    simp only [Bool.and_eq_true, decide_eq_true_eq] at h
    obtain ⟨⟨⟨hd, hs⟩, ho⟩, hz⟩ := h
    have := sec_ok hs
    exact ⟨⟨i64_in hd (by decide) (by decide), this.1, by omega, this.2, by rw [hz]; exact i64_s'⟩, .inl h1⟩
  · split at h
    · next h0 h1 =>
      simp only [Bool.and_eq_true, decide_eq_true_eq] at h
      obtain ⟨hd, he⟩ := h
      have e1 := congrArg IV.src he
      have e2 := congrArg IV.off he
      have e3 := congrArg IV.imm he
      have e4 := congrArg IV.size he
      simp only [iv0] at e1 e2 e3 e4
      exact ⟨⟨i64_in hd (by decide) (by decide), by rw [e1]; exact i64_s', by omega, by rw [e3]; exact i64_s', by rw [e4]; exact i64_s'⟩, .inr (.inl h1)⟩
    · split at h
      · next h0 h00 h1 =>
        simp only [Bool.and_eq_true, decide_eq_true_eq] at h
        obtain ⟨⟨⟨⟨hd, hs⟩, hf⟩, hz⟩, he⟩ := h
        have e3 := congrArg IV.imm he
        simp only [iv0] at e3
        have hf := inI_iff.1 hf
        have hz := size_eq hz
        exact ⟨⟨i64_in hd (by decide) (by decide), i64_in hs (by decide) (by decide), by omega, by rw [e3]; exact i64_s', by unfold I64; omega⟩, .inr (.inr (.inl h1))⟩
      · split at h
        · next h0 h00 h000 h1 =>
          simp only [Bool.and_eq_true, decide_eq_true_eq, Bool.not_eq_true'] at h
          obtain ⟨⟨⟨⟨hd, hf⟩, hz⟩, hs⟩, he⟩ := h
          have := sec_ok hs
          have hf := inI_iff.1 hf
          have hz := size_eq hz
          exact ⟨⟨i64_in hd (by decide) (by decide), this.1, by omega, this.2, by unfold I64; omega⟩, .inr (.inr (.inr (.inl h1)))⟩
        · split at h
          · next h0 h00 h000 h0000 h1 =>
            simp only [Bool.and_eq_true, decide_eq_true_eq] at h
            obtain ⟨hf, he⟩ := h
            have e0 := congrArg IV.dst he
            have e1 := congrArg IV.src he
            have e3 := congrArg IV.imm he
            have e4 := congrArg IV.size he
            simp only [iv0] at e0 e1 e3 e4
            have hf := inI_iff.1 hf
            exact ⟨⟨by rw [e0]; exact i64_s', by rw [e1]; exact i64_s', by omega, by rw [e3]; exact i64_s', by rw [e4]; exact i64_s'⟩, .inr (.inr (.inr (.inr (.inl h1))))⟩
          · split at h
            · next h0 h00 h000 h0000 h5 h1 =>
              simp only [Bool.and_eq_true, decide_eq_true_eq] at h
              obtain ⟨⟨⟨hd, hf⟩, hs⟩, hz⟩ := h
              have := sec_ok hs
              have hf := inI_iff.1 hf
              exact ⟨⟨i64_in hd (by decide) (by decide), this.1, by omega, this.2, by rw [hz]; exact i64_s'⟩, .inr (.inr (.inr (.inr (.inr (.inl h1)))))⟩
            · have h := of_decide_eq_true h
              rw [h]
              exact ⟨⟨i64_s', i64_s', by simp [iv0], i64_s', i64_s'⟩, .inr (.inr (.inr (.inr (.inr (.inr rfl)))))⟩
theorem show_any {B : Nat} (i : IV) (h : rightP i = true) (w : World) (hv : Tv B w) (hB : B ≤ w.heap.size) : Calls Tryz.prog 36 #[.agg (ivV i).toArray] w fun e w' => e = .returned (.string ⟨(showI i).toArray⟩) ∧ Below w.heap.size w w' := by
  obtain ⟨hi, ho⟩ := right_ok h
  obtain ⟨op, nr, d, s, u, o, m, z⟩ := i
  show Calls Tryz.prog 36 #[.agg #[.int .u8 op, .bool nr, .int .i64 d, .int .i64 s, .bool u, .int .i64 o, .int .i64 m, .int .i64 z]] w _
  rcases ho with ho | ho | ho | ho | ho | ho | ho
  · exact show_alu op nr d s u o m z hi w hv hB ho
  · exact show_neg op nr d s u o m z hi w hv hB ho
  · exact show_load op nr d s u o m z hi w hv hB ho
  · exact show_put op nr d s u o m z hi w hv hB ho
  · exact show_jump op nr d s u o m z hi w hv hB ho
  · exact show_ask op nr d s u o m z hi w hv hB ho
  · exact show_exit op nr d s u o m z hi w hv hB ho
end Go.Proofs.YtjebjninlejoeaaGreatDoor

