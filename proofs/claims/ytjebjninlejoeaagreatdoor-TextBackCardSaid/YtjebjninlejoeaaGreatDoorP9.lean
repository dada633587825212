/- text, the plain law: jumps that land. -/
import Derived.Test.YtjebjninlejoeaaGreatDoorP8
namespace Go.Proofs.YtjebjninlejoeaaGreatDoor
set_option linter.unusedVariables false
set_option linter.unusedSimpArgs false

theorem right_off_no {i : IV} {o : Int} (hj : JmpOp i) (ho : inI o (-32768) 32767 = false) : rightP { i with off := o } = false := by
  unfold rightP
  rcases hj with h | ⟨h1, h2⟩
  · simp [h, farR, ho]
  · have a1 : ¬ (1 ≤ i.op ∧ i.op ≤ 12) := by omega
    have a2 : ¬ i.op = 13 := by omega
    have a3 : ¬ i.op = 14 := by omega
    have a4 : ¬ i.op = 15 := by omega
    have a5 : ¬ i.op = 16 := by omega
    simp [a1, a2, a3, a4, a5, h1, h2, farR, ho]
/-- A line that begins with a word of the language. -/
theorem step_word {s s0 : Nm} {t : List Nm} {st : PS} {n : Nat} {i : IV} {k : Kind} (ht : toks s = some (s0 :: t)) (hm : markT (s0 :: t) = none) (hw : wayP s0 = some (i, k)) :
    (restT i t k = none → stepP st n s = .error (120, n)) ∧
    (∀ i' to r, restT i t k = some (i', to, r) → (r ≠ [] → stepP st n s = .error (120, n)) ∧ (rightP i' = false → stepP st n s = .error (120, n)) ∧
      (r = [] → rightP i' = true → (st.out.length = 4096 → stepP st n s = .error (3, n)) ∧ (st.out.length ≠ 4096 → (to = [] → stepP st n s = .ok { st with out := st.out ++ [i'] }) ∧ (to ≠ [] → stepP st n s = .ok { st with out := st.out ++ [i'], jumps := st.jumps ++ [⟨st.out.length, n, to⟩] })))) := by
  refine ⟨fun h => ?_, fun i' to r h => ⟨fun hr => ?_, fun hr => ?_, fun hr h1 => ⟨fun h2 => ?_, fun h2 => ⟨fun h3 => ?_, fun h3 => ?_⟩⟩⟩⟩ <;> unfold stepP <;> rw [ht] <;> simp only [hm, instP, hw, h]
  · cases r with
    | nil => exact absurd rfl hr
    | cons a r => rfl
  · cases r with
    | nil => simp [hr]
    | cons a r => rfl
  · subst hr; simp [h1, h2]
  · subst hr; simp [h1, h2, h3]
  · subst hr; simp [h1, h2, h3]
theorem step_unknown {s s0 : Nm} {t : List Nm} {st : PS} {n : Nat} (ht : toks s = some (s0 :: t)) (hm : markT (s0 :: t) = none) (hw : wayP s0 = none) : stepP st n s = .error (120, n) := by
  unfold stepP
  rw [ht]
  simp only [hm, instP, hw]
theorem step_bad {s : Nm} {st : PS} {n : Nat} (ht : toks s = none) : stepP st n s = .error (120, n) := by
  unfold stepP
  rw [ht]
theorem step_none {s : Nm} {st : PS} {n : Nat} (ht : toks s = some []) : stepP st n s = .ok st := by
  unfold stepP
  rw [ht]
theorem mark_form {t : List Nm} {a : Nm} (h : markT t = some a) : t = [a, [58]] ∧ labelP a = true := by
  unfold markT at h
  split at h
  · next x y =>
    split at h
    · next hy => injection h with h; subst h; exact ⟨by rw [hy.1], hy.2⟩
    · cases h
  · cases h
theorem step_mark {s a : Nm} {t : List Nm} {st : PS} {n : Nat} (ht : toks s = some t) (hm : markT t = some a) : (hasM st.marks a = none → stepP st n s = .ok { st with marks := st.marks ++ [(a, st.out.length)] }) ∧ (∀ k, hasM st.marks a = some k → stepP st n s = .error (121, n)) := by
  obtain ⟨rfl, hl⟩ := mark_form hm
  unfold stepP
  rw [ht]
  simp only [hm]
  exact ⟨fun h => by rw [h], fun k h => by rw [h]⟩
end Go.Proofs.YtjebjninlejoeaaGreatDoor

