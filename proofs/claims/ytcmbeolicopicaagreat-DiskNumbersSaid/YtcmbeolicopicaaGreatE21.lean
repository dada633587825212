/- disk: the law's step, whichever. -/
import Derived.Test.YtcmbeolicopicaaGreatE20
namespace Go.Proofs.YtcmbeolicopicaaGreat
open Go.RowKit Go.Maps Go.ChangeMaps
set_option linter.unusedVariables false
set_option linter.unusedSectionVars false
set_option linter.unusedSimpArgs false
set_option maxRecDepth 100000

theorem used_del_le (L : List FE) (p : FE → Bool) : usedF (L.filter p) ≤ usedF L := by
  induction L with
  | nil => exact Nat.le_refl _
  | cons x L ih =>
    unfold usedF at *
    rw [List.filter_cons]
    split
    · simp only [List.map_cons, List.sum_cons]; omega
    · simp only [List.map_cons, List.sum_cons]; omega
theorem used_del {L : List FE} {s : Nm} {f : FE} (hf : f ∈ L) (hs : f.s = s) : usedF (delF L s) + f.l.length ≤ usedF L := by
  induction L with
  | nil => cases hf
  | cons x L ih =>
    unfold delF at *
    by_cases hx : x.s = s
    · rw [List.filter_cons_of_neg (by simpa using hx)]
      rcases List.mem_cons.1 hf with rfl | hf
      · have := used_del_le L (fun g => decide (g.s ≠ s))
        unfold usedF at *
        simp only [List.map_cons, List.sum_cons]
        omega
      · have := ih hf
        unfold usedF at *
        simp only [List.map_cons, List.sum_cons]
        omega
    · rw [List.filter_cons_of_pos (by simpa using hx)]
      rcases List.mem_cons.1 hf with rfl | hf
      · exact absurd hs hx
      · have := ih hf
        unfold usedF at *
        simp only [List.map_cons, List.sum_cons]
        omega
theorem used_put_le {L : List FE} (h : Srt L) (f : FE) : usedF (putF L f) ≤ usedF L + f.l.length := by
  have := used_putF h f
  omega
theorem used_syn {L : List FE} (h : Srt L) (s : Nm) : usedF (synL L s) ≤ usedF L := by
  unfold synL
  cases e : fd L s with
  | none => exact Nat.le_refl _
  | some f =>
    have hf := (fd_some e).2
    have := used_putF h ⟨f.s, f.l, f.l.length⟩
    simp only [hf, e, Option.map_some, Option.getD_some] at this
    simp only [hf]
    omega
theorem used_cut {L : List FE} (h : Srt L) (s : Nm) (m : Int) : usedF (cutL L s m) ≤ usedF L := by
  unfold cutL
  cases e : fd L s with
  | none => exact Nat.le_refl _
  | some f =>
    simp only
    split
    · have hf := (fd_some e).2
      have := used_putF h ⟨f.s, f.l.take m.toNat, m.toNat⟩
      simp only [hf, e, Option.map_some, Option.getD_some, List.length_take] at this
      simp only [hf]
      omega
    · exact Nat.le_refl _
theorem used_ren {L : List FE} (h : Srt L) (s t : Nm) : usedF (renL L s t) ≤ usedF L := by
  unfold renL
  split
  · next f _ e =>
    have hf := fd_some e
    have h1 := used_del hf.1 hf.2
    have h2 := used_put_le (srt_delF h s) ⟨t, f.l, f.n⟩
    simp only at h2
    omega
  · exact Nat.le_refl _
theorem used_crash (keep : Int) : ∀ L : List FE, usedF (L.map (crF keep)) ≤ usedF L
  | [] => Nat.le_refl _
  | f :: L => by
    have := used_crash keep L
    unfold usedF at *
    simp only [List.map_cons, List.sum_cons]
    have : (crF keep f).l.length ≤ f.l.length := by unfold crF; rw [List.length_take]; omega
    omega
theorem used_app {L : List FE} (h : Srt L) (room : Int) (s : Nm) (l : List Int) : usedF (appL room L s l) ≤ usedF L + l.length := by
  unfold appL
  split
  · have := used_putF h ⟨s, oldF L s ++ l, oldN L s⟩
    have h3 : ((fd L s).map fun g => g.l.length).getD 0 = (oldF L s).length := by
      unfold oldF
      cases fd L s <;> rfl
    simp only [h3, List.length_append] at this
    omega
  · omega
theorem used_mem {L : List FE} {f : FE} (hf : f ∈ L) : f.l.length ≤ usedF L := by
  induction L with
  | nil => cases hf
  | cons x L ih =>
    unfold usedF at *
    simp only [List.map_cons, List.sum_cons]
    rcases List.mem_cons.1 hf with rfl | hf
    · omega
    · have := ih hf
      omega
def StX (F : Nat → Prop) (D X gd gx : Nat) (room : Int) (L : List FE) (n : Nat) (w : World) (e : Ending) (w' : World) : Prop :=
  (∃ L' n', n' ≤ n + 1 ∧ usedF L' ≤ usedF L + 400 ∧ StE F D X room L' n' w e w') ∨ StC F D X gd gx room L n w e w'
section
variable {F : Nat → Prop} {D X gd gx n : Nat} {room : Int} {d : DoV} {A : Option Addr} {c : Nat} {d1 x1 : Value} {L : List FE} {w : World}
theorem step_any (hroom : 0 ≤ room) (hgg : gd ≠ gx) (hn2 : n + 1 + 1 ≤ 1000000) (h : Pr F D X room L L n w) (hr : Rws gd gx (.pointer (some ⟨D, 0, none⟩)) d1 (.pointer (some ⟨X, 0, none⟩)) x1 w) (hd : F gd) (hx : F gx) (ha : StA F d A c w) :
    Calls Tryz.prog 11 #[.slice (some ⟨gd, 0, none⟩) 2 2, .slice (some ⟨gx, 0, none⟩) 2 2, .agg #[.int .i64 d.o, nmV d.s, nmV d.t, .int .i64 d.k, .slice A d.u.length c]] w (StX F D X gd gx room L n w) := by
  have hsr := h.plain.2.2.1
  have h9 := pickI_range d.o 9 (by decide)
  by_cases h3 : pickI d.o 9 = 3
  · exact (step_sync h3 h hr hd hx ha).mono fun e w' q => .inl ⟨_, n, Nat.le_succ n, Nat.le_trans (used_syn hsr _) (Nat.le_add_right _ _), q⟩
  by_cases h4 : pickI d.o 9 = 4
  · exact (step_cut h4 h hr hd hx ha).mono fun e w' q => .inl ⟨_, n, Nat.le_succ n, Nat.le_trans (used_cut hsr _ _) (Nat.le_add_right _ _), q⟩
  by_cases h5 : pickI d.o 9 = 5
  · exact (step_rename (by omega) h5 h hr hd hx ha).mono fun e w' q => .inl ⟨_, n, Nat.le_succ n, Nat.le_trans (used_ren hsr _ _) (Nat.le_add_right _ _), q⟩
  by_cases h6 : pickI d.o 9 = 6
  · exact (step_remove h6 h hr hd hx ha).mono fun e w' q => .inl ⟨_, n, Nat.le_succ n, Nat.le_trans (used_del_le _ _) (Nat.le_add_right _ _), q⟩
  by_cases h7 : pickI d.o 9 = 7
  · exact (step_crash h7 h hr hd hx ha).mono fun e w' q => .inl ⟨_, n, Nat.le_succ n, Nat.le_trans (used_crash _ _) (Nat.le_add_right _ _), q⟩
  by_cases h8 : pickI d.o 9 = 8
  · exact (step_copy hroom hgg hn2 h8 h hr hd hx ha).mono fun e w' q => .inr q
  · exact (step_append hn2 (by omega) h hr hd hx ha).mono fun e w' q => .inl ⟨_, n + 1, Nat.le_refl _, Nat.le_trans (used_app hsr _ _ _) (by have := ha.len; rw [bI_len]; omega), q⟩
end
end Go.Proofs.YtcmbeolicopicaaGreat

