/- disk: DiskSafe's state through a crash, in plain terms. -/
import Derived.Test.YtcmbeolicopicaaDSafe4
namespace Go.Proofs.Ytcmbeolicopicaa
open Go.RowKit Go.Maps Go.ChangeMaps
set_option linter.unusedVariables false
set_option linter.unusedSectionVars false
set_option linter.unusedSimpArgs false
set_option maxRecDepth 100000

def lenF (L : List FE) (t : Nm) : Nat := ((fd L t).map fun f => f.l.length).getD 0
/-- The maps behind j of the names; the number used. -/
def alC (L : List FE) (ns : List Nm) (al : Nm → Option Value) (j : Nat) : Nm → Option Value := fun t => if t ∈ ns.take j then (fd L t).map (fun f => nmV (tB f.l)) else al t
def slC (L : List FE) (ns : List Nm) (sl : Nm → Option Value) (j : Nat) : Nm → Option Value := fun t => if t ∈ ns.take j then some (.int .i64 (lenF L t : Nat)) else sl t
def usC (L : List FE) (ns : List Nm) (j : Nat) : Nat := ((ns.take j).map (lenF L)).sum
theorem not_took {ns : List Nm} (hd : ns.Nodup) {j : Nat} {s : Nm} (hj : ns[j]? = some s) : s ∉ ns.take j := by
  intro hm
  obtain ⟨i, hi, e⟩ := List.mem_iff_getElem.1 hm
  obtain ⟨j1, rfl⟩ := List.getElem?_eq_some_iff.1 hj
  rw [List.getElem_take] at e
  have hi' : i < j := by simp at hi; omega
  exact List.pairwise_iff_getElem.1 hd i j (by omega) j1 hi' e
theorem took {ns : List Nm} {j : Nat} {s : Nm} (hj : ns[j]? = some s) (t : Nm) : t ∈ ns.take (j + 1) ↔ t ∈ ns.take j ∨ t = s := by
  rw [List.take_add_one, hj]
  simp
theorem al_zero (L : List FE) (ns : List Nm) (al : Nm → Option Value) : alC L ns al 0 = al := by
  funext t
  simp [alC]
theorem sl_zero (L : List FE) (ns : List Nm) (sl : Nm → Option Value) : slC L ns sl 0 = sl := by
  funext t
  simp [slC]
theorem al_at {L : List FE} {ns : List Nm} (hd : ns.Nodup) (al : Nm → Option Value) {j : Nat} {s : Nm} (hj : ns[j]? = some s) : alC L ns al j s = al s := by
  unfold alC
  rw [if_neg (not_took hd hj)]
theorem sl_at {L : List FE} {ns : List Nm} (hd : ns.Nodup) (sl : Nm → Option Value) {j : Nat} {s : Nm} (hj : ns[j]? = some s) : slC L ns sl j s = sl s := by
  unfold slC
  rw [if_neg (not_took hd hj)]
theorem al_step {L : List FE} {ns : List Nm} (al : Nm → Option Value) {j : Nat} {s : Nm} (hj : ns[j]? = some s) {g : FE} (e : fd L s = some g) : upF (alC L ns al j) s (nmV (tB g.l)) = alC L ns al (j + 1) := by
  funext t
  unfold upF alC
  have hq := took hj t
  by_cases ht : t = s
  · rw [if_pos ht, if_pos (hq.2 (.inr ht)), ht, e]; rfl
  · rw [if_neg ht]
    by_cases hm : t ∈ ns.take j
    · rw [if_pos hm, if_pos (hq.2 (.inl hm))]
    · rw [if_neg hm, if_neg (fun q => (hq.1 q).elim hm ht)]
theorem sl_step {L : List FE} {ns : List Nm} (sl : Nm → Option Value) {j : Nat} {s : Nm} (hj : ns[j]? = some s) {g : FE} (e : fd L s = some g) : upF (slC L ns sl j) s (.int .i64 (g.l.length : Nat)) = slC L ns sl (j + 1) := by
  funext t
  unfold upF slC
  have hq := took hj t
  by_cases ht : t = s
  · rw [if_pos ht, if_pos (hq.2 (.inr ht)), ht, lenF, e]; rfl
  · rw [if_neg ht]
    by_cases hm : t ∈ ns.take j
    · rw [if_pos hm, if_pos (hq.2 (.inl hm))]
    · rw [if_neg hm, if_neg (fun q => (hq.1 q).elim hm ht)]
theorem us_step {L : List FE} {ns : List Nm} {j : Nat} {s : Nm} (hj : ns[j]? = some s) {g : FE} (e : fd L s = some g) : usC L ns (j + 1) = usC L ns j + g.l.length := by
  unfold usC
  rw [List.take_add_one, hj]
  simp [lenF, e]
theorem used_cr (keep : Int) : ∀ L : List FE, usedF (L.map (crF keep)) ≤ usedF L
  | [] => Nat.le_refl _
  | f :: L => by
    have := used_cr keep L
    unfold usedF at *
    simp only [List.map_cons, List.sum_cons]
    have : (crF keep f).l.length ≤ f.l.length := by unfold crF; rw [List.length_take]; omega
    omega
theorem tB_take (l : List Int) (k : Nat) : tB (l.take k) = (tB l).take k := by unfold tB; rw [List.map_take]
section
variable {L : List FE} {ns : List Nm} {al sl : Nm → Option Value} {k : Nat} (h : Sq L ns al sl k) (keep : Int)
include h
theorem Sq.us_all : usC L ns ns.length = usedF L := by
  unfold usC usedF
  rw [List.take_length]
  have h1 := (h.perm.map (lenF L)).sum_nat
  rw [h1, List.map_map]
  congr 1
  refine List.map_congr_left fun f hf => ?_
  simp [lenF, fd_mem h.srt.dis hf]
theorem Sq.us_le (j : Nat) : usC L ns j ≤ usedF L := by
  rw [← h.us_all]
  unfold usC
  rw [List.take_length]
  have := congrArg (fun l => (l.map (lenF L)).sum) (List.take_append_drop j ns)
  simp only [List.map_append, List.sum_append_nat] at this
  omega
theorem Sq.cr_at {j : Nat} {s : Nm} (hj : ns[j]? = some s) : ∃ g, fd L s = some g ∧ fd (L.map (crF keep)) s = some (crF keep g) ∧ (crF keep g).l.length ≤ g.l.length ∧ g.n ≤ (crF keep g).l.length ∧ (keep < 1 → (crF keep g).l.length = g.n) ∧ tB (crF keep g).l <+: tB g.l ∧ g.l.length ≤ 400 * k ∧ (crF keep g).n = (crF keep g).l.length := by
  obtain ⟨g, hg⟩ := (h.mem s).1 (List.mem_of_getElem? hj)
  have hn := h.nl g (fd_some hg).1
  have hl := h.len s
  unfold oldF tB at hl
  rw [hg, List.length_map] at hl
  refine ⟨g, hg, by rw [fd_cr, hg]; rfl, ?_, ?_, ?_, ?_, hl, ?_⟩
  · simp [crF]; omega
  · simp [crF, crK]; omega
  · intro hk; simp [crF, crK]; omega
  · unfold crF; rw [tB_take]; exact List.take_prefix _ _
  · simp [crF, crK]; omega
theorem Sq.crash : Sq (L.map (crF keep)) ns (alC (L.map (crF keep)) ns al ns.length) (slC (L.map (crF keep)) ns sl ns.length) (k + 1) := by
  have hmem : ∀ s, s ∈ ns ↔ ∃ g, fd (L.map (crF keep)) s = some g := by
    intro s
    rw [h.mem s, fd_cr]
    constructor
    · rintro ⟨g, hg⟩
      exact ⟨_, by rw [hg]; rfl⟩
    · rintro ⟨g, hg⟩
      cases e : fd L s with
      | none => rw [e] at hg; cases hg
      | some f => exact ⟨f, rfl⟩
  have hn : ∀ f ∈ L.map (crF keep), f.n = f.l.length := by
    intro f hf
    obtain ⟨g, hg, rfl⟩ := List.mem_map.1 hf
    have := h.nl g hg
    simp [crF, crK]; omega
  refine ⟨srt_cr h.srt keep, h.nd, hmem, fun f hf => ?_, fun t => ?_, fun t => ?_, fun f hf => Nat.le_of_eq (hn f hf), by have := h.few; omega, ?_, h.nm⟩
  · obtain ⟨g, hg, rfl⟩ := List.mem_map.1 hf
    intro x hx
    exact h.rng g hg x (List.mem_of_mem_take hx)
  · unfold alC
    rw [List.take_length]
    split
    · rfl
    · next hm =>
      rw [h.al t, fd_cr]
      cases e : fd L t with
      | none => rfl
      | some g => exact absurd ((h.mem t).2 ⟨g, e⟩) hm
  · unfold slC
    rw [List.take_length]
    split
    · next hm =>
      obtain ⟨g, hg⟩ := (hmem t).1 hm
      rw [lenF, hg]
      simp [hn g (fd_some hg).1]
    · next hm =>
      rw [h.sl t, fd_cr]
      cases e : fd L t with
      | none => rfl
      | some g => exact absurd ((h.mem t).2 ⟨g, e⟩) hm
  · have := used_cr keep L
    have := h.used
    omega
theorem Sq.again : (L.map (crF keep)).map (crF (-1)) = L.map (crF keep) := by
  rw [List.map_map]
  refine List.map_congr_left fun g hg => ?_
  have := h.nl g hg
  simp only [Function.comp, crF, crK]
  rw [show (FE.mk g.s (g.l.take (g.n + min (max keep 0).toNat (g.l.length - g.n))) (g.n + min (max keep 0).toNat (g.l.length - g.n))) = FE.mk g.s (g.l.take (g.n + min (max keep 0).toNat (g.l.length - g.n))) (g.n + min (max keep 0).toNat (g.l.length - g.n)) from rfl]
  congr 1
  rw [List.take_of_length_le]
  simp only [List.length_take]
  omega
end
end Go.Proofs.Ytcmbeolicopicaa

