/- disk: files by their names, in plain words. No program. -/
import Derived.WalkKit
import Derived.Lib.MinMaxS
namespace Go.Proofs.Ytcmbeolicopicaa
set_option linter.unusedVariables false

abbrev Nm := List UInt8
/-- A file: its name, its bytes, how many of them are safe. -/
structure FE where
  s : Nm
  l : List Int
  n : Nat
theorem nm_irr (a : Nm) : ¬ a < a := List.lt_irrefl a
theorem nm_trans {a b c : Nm} (h : a < b) (k : b < c) : a < c := List.lt_trans h k
theorem nm_asym {a b : Nm} (h : a < b) : ¬ b < a := fun k => nm_irr a (nm_trans h k)
theorem nm_tri (a b : Nm) : a < b ∨ a = b ∨ b < a := by
  by_cases h : a < b
  · exact .inl h
  · by_cases k : b < a
    · exact .inr (.inr k)
    · exact .inr (.inl (List.le_antisymm (List.not_lt.1 k) (List.not_lt.1 h)))
theorem nm_ne {a b : Nm} (h : a < b) : a ≠ b := fun e => nm_irr b (e ▸ h)
/-- Names rise. -/
def Srt (L : List FE) : Prop := L.Pairwise fun a b => a.s < b.s
/-- No name twice. -/
def Dis (L : List FE) : Prop := L.Pairwise fun a b => a.s ≠ b.s
theorem Srt.dis {L : List FE} (h : Srt L) : Dis L := h.imp nm_ne
theorem Dis.nodup {L : List FE} (h : Dis L) : L.Nodup := h.imp fun hn e => hn (by rw [e])
theorem Dis.perm {L M : List FE} (h : Dis L) (p : L.Perm M) : Dis M := p.pairwise h fun hn => Ne.symm hn
theorem Dis.one {L : List FE} (h : Dis L) {a b : FE} (ha : a ∈ L) (hb : b ∈ L) (e : a.s = b.s) : a = b := by
  obtain ⟨i, hi, rfl⟩ := List.getElem_of_mem ha
  obtain ⟨j, hj, rfl⟩ := List.getElem_of_mem hb
  rcases Nat.lt_trichotomy i j with q | q | q
  · exact absurd e (List.pairwise_iff_getElem.1 h i j hi hj q)
  · subst q; rfl
  · exact absurd e.symm (List.pairwise_iff_getElem.1 h j i hj hi q)
def fd (L : List FE) (s : Nm) : Option FE := L.find? fun f => decide (f.s = s)
theorem fd_some {L : List FE} {s : Nm} {f : FE} (h : fd L s = some f) : f ∈ L ∧ f.s = s :=
  ⟨List.mem_of_find?_eq_some h, by have := List.find?_some h; simpa using this⟩
theorem fd_none {L : List FE} {s : Nm} (h : fd L s = none) : ∀ f ∈ L, f.s ≠ s := by
  intro f hf
  have := List.find?_eq_none.1 h f hf
  simpa using this
theorem fd_mem {L : List FE} (h : Dis L) {f : FE} (hf : f ∈ L) : fd L f.s = some f := by
  cases e : fd L f.s with
  | none => exact absurd rfl (fd_none e f hf)
  | some g =>
    obtain ⟨h1, h2⟩ := fd_some e
    rw [h.one h1 hf h2]
theorem fd_not {L : List FE} {s : Nm} (h : ∀ f ∈ L, f.s ≠ s) : fd L s = none := List.find?_eq_none.2 fun f hf => by simpa using h f hf
theorem fd_perm {L M : List FE} (h : Dis L) (p : L.Perm M) (s : Nm) : fd L s = fd M s := by
  cases e : fd M s with
  | none => exact fd_not fun f hf => fd_none e f (p.mem_iff.1 hf)
  | some g =>
    obtain ⟨h1, rfl⟩ := fd_some e
    exact fd_mem h (p.mem_iff.2 h1)
/-- A file is put in its place. -/
def putF (L : List FE) (f : FE) : List FE := L.filter (fun g => decide (g.s < f.s)) ++ f :: L.filter (fun g => decide (f.s < g.s))
def delF (L : List FE) (s : Nm) : List FE := L.filter fun g => decide (g.s ≠ s)
def usedF (L : List FE) : Nat := (L.map fun f => f.l.length).sum
theorem mem_putF {L : List FE} {f g : FE} : g ∈ putF L f ↔ g = f ∨ (g ∈ L ∧ g.s ≠ f.s) := by
  unfold putF
  simp only [List.mem_append, List.mem_filter, List.mem_cons, decide_eq_true_eq]
  constructor
  · rintro (⟨h1, h2⟩ | h | ⟨h1, h2⟩)
    · exact .inr ⟨h1, nm_ne h2⟩
    · exact .inl h
    · exact .inr ⟨h1, Ne.symm (nm_ne h2)⟩
  · rintro (h | ⟨h1, h2⟩)
    · exact .inr (.inl h)
    · rcases nm_tri g.s f.s with q | q | q
      · exact .inl ⟨h1, q⟩
      · exact absurd q h2
      · exact .inr (.inr ⟨h1, q⟩)
theorem mem_delF {L : List FE} {s : Nm} {g : FE} : g ∈ delF L s ↔ g ∈ L ∧ g.s ≠ s := by
  unfold delF
  simp [List.mem_filter]
theorem srt_putF {L : List FE} (h : Srt L) (f : FE) : Srt (putF L f) := by
  unfold putF
  refine List.pairwise_append.2 ⟨h.sublist List.filter_sublist, List.pairwise_cons.2 ⟨fun g hg => ?_, h.sublist List.filter_sublist⟩, fun a ha b hb => ?_⟩
  · exact of_decide_eq_true (List.mem_filter.1 hg).2
  · have h1 : a.s < f.s := of_decide_eq_true (List.mem_filter.1 ha).2
    rcases List.mem_cons.1 hb with rfl | hb
    · exact h1
    · exact nm_trans h1 (of_decide_eq_true (List.mem_filter.1 hb).2)
theorem srt_delF {L : List FE} (h : Srt L) (s : Nm) : Srt (delF L s) := h.sublist List.filter_sublist
/-- There is one rising list of the same files. -/
theorem srt_one : ∀ {L M : List FE}, Srt L → Srt M → (∀ f, f ∈ L ↔ f ∈ M) → L = M := by
  intro L
  induction L with
  | nil =>
    intro M _ _ h
    cases M with
    | nil => rfl
    | cons x l => exact absurd ((h x).2 (by simp)) (by simp)
  | cons x l ih =>
    intro M h1 h2 h
    cases M with
    | nil => exact absurd ((h x).1 (by simp)) (by simp)
    | cons x' l' =>
      obtain ⟨a1, a2⟩ := List.pairwise_cons.1 h1
      obtain ⟨b1, b2⟩ := List.pairwise_cons.1 h2
      have hx : x = x' := by
        have m1 := (h x).1 (by simp)
        have m2 := (h x').2 (by simp)
        simp at m1 m2
        rcases m1 with e | m1
        · exact e
        · rcases m2 with e | m2
          · exact e.symm
          · exact absurd (a1 _ m2) (nm_asym (b1 _ m1))
      subst hx
      congr 1
      refine ih a2 b2 fun p => ⟨fun hp => ?_, fun hp => ?_⟩
      · have := (h p).1 (by simp [hp])
        simp at this
        rcases this with rfl | this
        · exact absurd (a1 _ hp) (nm_irr _)
        · exact this
      · have := (h p).2 (by simp [hp])
        simp at this
        rcases this with rfl | this
        · exact absurd (b1 _ hp) (nm_irr _)
        · exact this
theorem perm_of {L M : List FE} (hL : Dis L) (hM : Dis M) (h : ∀ f, f ∈ L ↔ f ∈ M) : L.Perm M := (List.perm_ext_iff_of_nodup hL.nodup hM.nodup).2 h
theorem dis_set {L : List FE} (h : Dis L) {j : Nat} {f g : FE} (hj : L[j]? = some f) (e : g.s = f.s) : Dis (L.set j g) := by
  unfold Dis at *
  have hm : (L.set j g).map FE.s = L.map FE.s := by
    refine List.ext_getElem? fun i => ?_
    rw [List.getElem?_map, List.getElem?_map, List.getElem?_set]
    by_cases hi : j = i
    · subst hi; rw [if_pos rfl, if_pos (List.getElem?_eq_some_iff.1 hj).1, hj]; simp [e]
    · rw [if_neg hi]
  rw [← List.pairwise_map (f := FE.s) (R := fun a b => a ≠ b)] at h ⊢
  rw [hm]; exact h
theorem mem_set {L : List FE} (h : Dis L) {j : Nat} {f g x : FE} (hj : L[j]? = some f) (e : g.s = f.s) : x ∈ L.set j g ↔ x = g ∨ (x ∈ L ∧ x.s ≠ g.s) := by
  obtain ⟨hl, hf⟩ := List.getElem?_eq_some_iff.1 hj
  constructor
  · intro hx
    obtain ⟨i, hi, rfl⟩ := List.getElem_of_mem hx
    rw [List.getElem_set]
    split
    · exact .inl rfl
    · next hne =>
      simp at hi
      refine .inr ⟨List.getElem_mem hi, fun e2 => hne ?_⟩
      have := h.one (List.getElem_mem hi) (List.getElem_mem hl) (by rw [e2, e, hf])
      have := (List.pairwise_iff_getElem.1 h)
      rcases Nat.lt_trichotomy i j with q | q | q
      · exact absurd (by rw [e2, e, hf]) (this i j hi hl q)
      · exact q.symm
      · exact absurd (by rw [e2, e, hf]) (this j i hl hi q)
  · rintro (rfl | ⟨hx, hne⟩)
    · exact List.mem_set hl _
    · obtain ⟨i, hi, rfl⟩ := List.getElem_of_mem hx
      have hij : j ≠ i := fun q => hne (by subst q; rw [hf, e])
      exact List.mem_iff_getElem.2 ⟨i, by simpa using hi, by rw [List.getElem_set_ne hij]⟩
/-- A file of a name that was is another one. -/
theorem perm_set {M L : List FE} (hM : Dis M) (hL : Srt L) (p : M.Perm L) {j : Nat} {f g : FE} (hj : M[j]? = some f) (e : g.s = f.s) : (M.set j g).Perm (putF L g) :=
  perm_of (dis_set hM hj e) (srt_putF hL g).dis fun x => by rw [mem_set hM hj e, mem_putF, p.mem_iff]
/-- A file of a new name. -/
theorem dis_push {M : List FE} (hM : Dis M) {g : FE} (hn : ∀ f ∈ M, f.s ≠ g.s) : Dis (M ++ [g]) :=
  List.pairwise_append.2 ⟨hM, List.pairwise_singleton _ _, fun a ha b hb => by simp at hb; rw [hb]; exact hn a ha⟩
theorem perm_push {M L : List FE} (hM : Dis M) (hL : Srt L) (p : M.Perm L) {g : FE} (hn : ∀ f ∈ M, f.s ≠ g.s) : (M ++ [g]).Perm (putF L g) := by
  refine perm_of (dis_push hM hn) (srt_putF hL g).dis fun x => ?_
  rw [mem_putF, List.mem_append, List.mem_singleton]
  constructor
  · rintro (h | h)
    · exact .inr ⟨p.mem_iff.1 h, hn x h⟩
    · exact .inl h
  · rintro (h | ⟨h, _⟩)
    · exact .inr h
    · exact .inl (p.mem_iff.2 h)
theorem perm_erase {M L : List FE} (hM : Dis M) (hL : Srt L) (p : M.Perm L) {j : Nat} {f : FE} (hj : M[j]? = some f) : (M.eraseIdx j).Perm (delF L f.s) := by
  obtain ⟨hl, hf⟩ := List.getElem?_eq_some_iff.1 hj
  refine perm_of (hM.sublist (List.eraseIdx_sublist _ _)) (srt_delF hL f.s).dis fun x => ?_
  rw [mem_delF]
  constructor
  · intro hx
    refine ⟨p.mem_iff.1 ((List.eraseIdx_sublist _ _).subset hx), fun e => ?_⟩
    obtain ⟨i, hi, hx'⟩ := List.mem_iff_getElem.1 hx
    rw [List.getElem_eraseIdx] at hx'
    have hps := List.pairwise_iff_getElem.1 hM
    have hil : i < M.length - 1 := by rw [← List.length_eraseIdx_of_lt hl]; exact hi
    split at hx'
    · next q => exact absurd (by rw [hx', hf, e]) (hps i j (by omega) hl q)
    · next q => exact absurd (by rw [hx', hf, e]) (hps j (i + 1) hl (by omega) (by omega))
  · rintro ⟨hx, hne⟩
    obtain ⟨i, hi, rfl⟩ := List.getElem_of_mem (p.mem_iff.2 hx)
    have hij : i ≠ j := fun q => hne (by subst q; rw [hf])
    rw [List.mem_eraseIdx_iff_getElem]
    exact ⟨i, hi, hij, rfl⟩
theorem perm_used {M L : List FE} (p : M.Perm L) : usedF M = usedF L := (p.map _).sum_nat
theorem used_putF {L : List FE} (hL : Srt L) (f : FE) : usedF (putF L f) + ((fd L f.s).map fun g => g.l.length).getD 0 = usedF L + f.l.length := by
  cases e : fd L f.s with
  | none =>
    have hn := fd_none e
    have := perm_used (perm_push hL.dis hL (List.Perm.refl L) (g := f) hn)
    rw [← this]
    simp [usedF]
  | some g =>
    obtain ⟨h1, h2⟩ := fd_some e
    obtain ⟨j, hj⟩ := List.mem_iff_getElem?.1 h1
    have := perm_used (perm_set hL.dis hL (List.Perm.refl L) (g := f) hj h2.symm)
    rw [← this]
    obtain ⟨hl, hg⟩ := List.getElem?_eq_some_iff.1 hj
    have e1 : L = L.take j ++ g :: L.drop (j + 1) := by rw [← hg, ← List.drop_eq_getElem_cons hl, List.take_append_drop]
    have e2 : L.set j f = L.take j ++ f :: L.drop (j + 1) := by rw [List.set_eq_take_append_cons_drop, if_pos hl]
    rw [e2]
    conv => rhs; rw [e1]
    simp [usedF]
    omega
end Go.Proofs.Ytcmbeolicopicaa
