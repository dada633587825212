/- maps from texts, known by a list or by a function. -/
import Derived.Test.YtjebjninlejoeaaGreatDoorX4
namespace Go.Proofs.YtjebjninlejoeaaGreatDoor
open Go.RowKit Go.Maps Go.ChangeMaps
set_option linter.unusedVariables false
set_option linter.unusedSectionVars false
set_option linter.unusedSimpArgs false
set_option maxRecDepth 100000

theorem sbk_same {w : World} {m : Nat} {o o' : Obj} (h : w.heap[m]? = some o) : (setBlock w m o').heap[m]? = some o' := by
  have := (Array.getElem?_eq_some_iff.1 h).1
  simp [setBlock, this]
theorem sbk_far {w : World} {m k : Nat} {o' : Obj} (h : k ≠ m) : (setBlock w m o').heap[k]? = w.heap[k]? := by
  simp [setBlock, Array.getElem?_setIfInBounds_ne (fun e => h e.symm)]
theorem sbk_size (w : World) (m : Nat) (o' : Obj) : (setBlock w m o').heap.size = w.heap.size := by simp [setBlock]
/-- Map m alone was turned. -/
structure MapTo (m : Nat) (w w' : World) : Prop where
  os : w'.os = w.os
  tape : w'.tape = w.tape
  output : w'.output = w.output
  size : w'.heap.size = w.heap.size
  far : ∀ k, k ≠ m → w'.heap[k]? = w.heap[k]?
theorem sbk_to (w : World) (m : Nat) (o' : Obj) : MapTo m w (setBlock w m o') := ⟨rfl, rfl, rfl, sbk_size w m o', fun k hk => sbk_far hk⟩
/-- Map m holds these. -/
def Mp (w : World) (m : Nat) (L : List (Nm × Value)) : Prop := ∃ es ck, w.heap[m]? = some (.map es.toArray ck) ∧ EsOk Tryz.prog 9 es ck ∧ es.map (fun e => (e.key, e.val)) = L.map fun p => (nmV p.1, p.2)
def mpF (L : List (Nm × Value)) (s : Nm) : Option (Nm × Value) := L.find? fun p => decide (p.1 = s)
theorem Mp.keep {w w' : World} {m : Nat} {L : List (Nm × Value)} (h : Mp w m L) (e : w'.heap[m]? = w.heap[m]?) : Mp w' m L := by
  obtain ⟨es, ck, h1, h2, h3⟩ := h
  exact ⟨es, ck, e.trans h1, h2, h3⟩
theorem mp_at {es : List MapEntry} {L : List (Nm × Value)} (h : es.map (fun e => (e.key, e.val)) = L.map fun p => (nmV p.1, p.2)) {j : Nat} {p : Nm × Value} (hj : L[j]? = some p) : ∃ e, es[j]? = some e ∧ e.key = nmV p.1 ∧ e.val = p.2 := by
  have h1 := congrArg (fun l => l[j]?) h
  simp only [List.getElem?_map, hj, Option.map_some] at h1
  cases h2 : es[j]? with
  | none => rw [h2] at h1; cases h1
  | some e =>
    rw [h2] at h1
    simp at h1
    exact ⟨e, rfl, h1⟩
theorem mp_none {es : List MapEntry} {L : List (Nm × Value)} (h : es.map (fun e => (e.key, e.val)) = L.map fun p => (nmV p.1, p.2)) {s : Nm} (hno : mpF L s = none) : ∀ e ∈ es, e.key ≠ nmV s := by
  intro e he hk
  have h1 : (e.key, e.val) ∈ L.map fun p => (nmV p.1, p.2) := by rw [← h]; exact List.mem_map.2 ⟨e, he, rfl⟩
  obtain ⟨p, hp, q⟩ := List.mem_map.1 h1
  injection q with q1 q2
  have := List.find?_eq_none.1 hno p hp
  simp at this
  exact this (nmV_inj (q1.trans hk))
section
variable {t et : TypeId} (ht : Tryz.prog.underlying t = some (.map 9 et)) {w : World} {m : Nat} {L : List (Nm × Value)} (h : Mp w m L) (s : Nm) (hs : s.length ≤ 1000000)
include ht h hs
theorem Mp.look {z : Value} (hz : ∀ W : World, (zeroValue et).run Tryz.prog W = .ok z W) : (Instr.lookup t (.map (some m)) (nmV s) false).run Tryz.prog w = .ok (((mpF L s).map Prod.snd).getD z) w := by
  obtain ⟨es, ck, h1, h2, h3⟩ := h
  obtain ⟨l, hl⟩ := nmKey s (by unfold maxLen; omega)
  cases hr : mpF L s with
  | none => exact run_look_none strLaw ht h1 h2 hl (mp_none h3 hr) (hz w)
  | some p =>
    have hm := List.mem_of_find?_eq_some hr
    have hp : p.1 = s := by have := List.find?_some hr; simpa using this
    obtain ⟨j, hj⟩ := List.mem_iff_getElem?.1 hm
    obtain ⟨e, he, k1, k2⟩ := mp_at h3 hj
    rw [run_look_some strLaw ht h1 h2 hl he (by rw [k1, hp]), k2]
    rfl
theorem Mp.upd_new (hno : mpF L s = none) (v : Value) : ∃ W', (Instr.mapUpdate t (.map (some m)) (nmV s) v).run Tryz.prog w = .ok () W' ∧ MapTo m w W' ∧ Mp W' m (L ++ [(s, v)]) := by
  obtain ⟨es, ck, h1, h2, h3⟩ := h
  obtain ⟨l, hl⟩ := nmKey s (by unfold maxLen; omega)
  exact ⟨_, run_upd_none strLaw ht h1 h2 hl (mp_none h3 hno) v, sbk_to _ _ _, _, _, sbk_same h1, h2.push hl (mp_none h3 hno) _, by simp [h3]⟩
theorem Mp.upd_old {j : Nat} {u : Value} (hj : L[j]? = some (s, u)) (v : Value) : ∃ W', (Instr.mapUpdate t (.map (some m)) (nmV s) v).run Tryz.prog w = .ok () W' ∧ MapTo m w W' ∧ Mp W' m (L.set j (s, v)) := by
  obtain ⟨es, ck, h1, h2, h3⟩ := h
  obtain ⟨l, hl⟩ := nmKey s (by unfold maxLen; omega)
  obtain ⟨e, he, k1, k2⟩ := mp_at h3 hj
  refine ⟨_, run_upd_some strLaw ht h1 h2 hl he k1 v, sbk_to _ _ _, _, _, sbk_same h1, h2.set he _, ?_⟩
  refine List.ext_getElem? fun i => ?_
  have h3i := congrArg (fun l => l[i]?) h3
  simp only [List.getElem?_map] at h3i
  rw [List.getElem?_map, List.getElem?_map, List.getElem?_set, List.getElem?_set]
  by_cases hi : j = i
  · subst hi
    rw [if_pos rfl, if_pos rfl, if_pos (List.getElem?_eq_some_iff.1 hj).1, if_pos (List.getElem?_eq_some_iff.1 he).1]
    simp [k1]
  · rw [if_neg hi, if_neg hi]
    exact h3i
end
theorem mpF_push {L : List (Nm × Value)} {s : Nm} (h : mpF L s = none) (v : Value) (t : Nm) : mpF (L ++ [(s, v)]) t = if t = s then some (s, v) else mpF L t := by
  unfold mpF at *
  rw [List.find?_append]
  by_cases ht : t = s
  · subst ht; rw [h]; simp
  · rw [if_neg ht, List.find?_cons_of_neg (by simpa using fun e => ht e.symm)]
    simp
theorem mpF_at {L : List (Nm × Value)} (hd : L.Pairwise fun a b => a.1 ≠ b.1) {j : Nat} {p : Nm × Value} (hj : L[j]? = some p) : mpF L p.1 = some p := by
  cases e : mpF L p.1 with
  | none =>
    have := List.find?_eq_none.1 e p (List.mem_of_getElem? hj)
    simp at this
  | some q =>
    have hq := List.mem_of_find?_eq_some e
    have hs : q.1 = p.1 := by have := List.find?_some e; simpa using this
    obtain ⟨i, hi⟩ := List.mem_iff_getElem?.1 hq
    obtain ⟨i1, rfl⟩ := List.getElem?_eq_some_iff.1 hi
    obtain ⟨j1, rfl⟩ := List.getElem?_eq_some_iff.1 hj
    rcases Nat.lt_trichotomy i j with r | r | r
    · exact absurd hs (List.pairwise_iff_getElem.1 hd i j i1 j1 r)
    · subst r; rfl
    · exact absurd hs.symm (List.pairwise_iff_getElem.1 hd j i j1 i1 r)
theorem mpF_set {L : List (Nm × Value)} (hd : L.Pairwise fun a b => a.1 ≠ b.1) {j : Nat} {s : Nm} {u : Value} (hj : L[j]? = some (s, u)) (v : Value) (t : Nm) : mpF (L.set j (s, v)) t = if t = s then some (s, v) else mpF L t := by
  have hlt := (List.getElem?_eq_some_iff.1 hj).1
  have hd2 : (L.set j (s, v)).Pairwise fun a b => a.1 ≠ b.1 := by
    have h1 : (L.set j (s, v)).map Prod.fst = L.map Prod.fst := by
      refine List.ext_getElem? fun i => ?_
      rw [List.getElem?_map, List.getElem?_map, List.getElem?_set]
      by_cases hi : j = i
      · subst hi; rw [if_pos rfl, if_pos hlt, hj]; rfl
      · rw [if_neg hi]
    have h2 : (L.map Prod.fst).Pairwise (· ≠ ·) := List.pairwise_map.2 hd
    rw [← h1] at h2
    exact List.pairwise_map.1 h2
  have hset : (L.set j (s, v))[j]? = some (s, v) := by rw [List.getElem?_set, if_pos rfl, if_pos hlt]
  by_cases ht : t = s
  · rw [if_pos ht, ht]; exact mpF_at hd2 hset
  · rw [if_neg ht]
    cases e : mpF L t with
    | none =>
      refine List.find?_eq_none.2 fun p hp => ?_
      rcases List.mem_or_eq_of_mem_set hp with hp | rfl
      · exact List.find?_eq_none.1 e p hp
      · simpa using fun q => ht q.symm
    | some p =>
      have hp := List.mem_of_find?_eq_some e
      have hs : p.1 = t := by have := List.find?_some e; simpa using this
      obtain ⟨i, hi⟩ := List.mem_iff_getElem?.1 hp
      have hne : j ≠ i := by
        rintro rfl
        rw [hj] at hi
        injection hi with hi
        exact ht (by rw [← hs, ← hi])
      have : (L.set j (s, v))[i]? = some p := by rw [List.getElem?_set, if_neg hne]; exact hi
      rw [← hs]
      exact mpF_at hd2 this
theorem pw_set {L : List (Nm × Value)} (hd : L.Pairwise fun a b => a.1 ≠ b.1) {j : Nat} {s : Nm} {u : Value} (hj : L[j]? = some (s, u)) (v : Value) : (L.set j (s, v)).Pairwise fun a b => a.1 ≠ b.1 := by
  have hlt := (List.getElem?_eq_some_iff.1 hj).1
  have h1 : (L.set j (s, v)).map Prod.fst = L.map Prod.fst := by
    refine List.ext_getElem? fun i => ?_
    rw [List.getElem?_map, List.getElem?_map, List.getElem?_set]
    by_cases hi : j = i
    · subst hi; rw [if_pos rfl, if_pos hlt, hj]; rfl
    · rw [if_neg hi]
  have h2 : (L.map Prod.fst).Pairwise (· ≠ ·) := List.pairwise_map.2 hd
  rw [← h1] at h2
  exact List.pairwise_map.1 h2
/-- Map m tells this. -/
def Mf (w : World) (m : Nat) (φ : Nm → Option Value) : Prop := ∃ L, Mp w m L ∧ (L.Pairwise fun a b => a.1 ≠ b.1) ∧ ∀ s, (mpF L s).map Prod.snd = φ s
def upF (φ : Nm → Option Value) (s : Nm) (v : Value) : Nm → Option Value := fun t => if t = s then some v else φ t
theorem Mf.keep {w w' : World} {m : Nat} {φ : Nm → Option Value} (h : Mf w m φ) (e : w'.heap[m]? = w.heap[m]?) : Mf w' m φ := by
  obtain ⟨L, h1, h2, h3⟩ := h
  exact ⟨L, h1.keep e, h2, h3⟩
theorem Mf.lt {w : World} {m : Nat} {φ : Nm → Option Value} (h : Mf w m φ) : m < w.heap.size := by
  obtain ⟨L, ⟨es, ck, h1, _⟩, _⟩ := h
  exact (Array.getElem?_eq_some_iff.1 h1).1
section
variable {t et : TypeId} (ht : Tryz.prog.underlying t = some (.map 9 et)) {w : World} {m : Nat} {φ : Nm → Option Value} (h : Mf w m φ) (s : Nm) (hs : s.length ≤ 1000000)
include ht h hs
theorem Mf.look {z : Value} (hz : ∀ W : World, (zeroValue et).run Tryz.prog W = .ok z W) : (Instr.lookup t (.map (some m)) (nmV s) false).run Tryz.prog w = .ok ((φ s).getD z) w := by
  obtain ⟨L, h1, h2, h3⟩ := h
  rw [← h3 s]
  exact h1.look ht s hs hz
theorem Mf.upd (v : Value) : ∃ W', (Instr.mapUpdate t (.map (some m)) (nmV s) v).run Tryz.prog w = .ok () W' ∧ MapTo m w W' ∧ Mf W' m (upF φ s v) := by
  obtain ⟨L, h1, h2, h3⟩ := h
  cases hr : mpF L s with
  | none =>
    obtain ⟨W', q1, q2, q3⟩ := h1.upd_new ht s hs hr v
    refine ⟨W', q1, q2, _, q3, ?_, fun t => ?_⟩
    · refine List.pairwise_append.2 ⟨h2, List.pairwise_singleton _ _, fun a ha b hb => ?_⟩
      simp at hb
      subst hb
      have := List.find?_eq_none.1 hr a ha
      simpa using this
    · rw [mpF_push hr, upF]
      split
      · rfl
      · exact h3 t
  | some p =>
    have hm := List.mem_of_find?_eq_some hr
    have hp : p.1 = s := by have := List.find?_some hr; simpa using this
    obtain ⟨j, hj⟩ := List.mem_iff_getElem?.1 hm
    obtain ⟨p1, p2⟩ := p
    simp at hp
    subst hp
    obtain ⟨W', q1, q2, q3⟩ := h1.upd_old ht p1 hs hj v
    refine ⟨W', q1, q2, _, q3, pw_set h2 hj v, fun t => ?_⟩
    rw [mpF_set h2 hj, upF]
    split
    · rfl
    · exact h3 t
end
section
variable {t et : TypeId} (ht : Tryz.prog.underlying t = some (.map 9 et)) {w : World} {m : Nat} {φ : Nm → Option Value} (h : Mf w m φ) (s : Nm) (hs : s.length ≤ 1000000)
include ht h hs
/-- v, is := m[s]. -/
theorem Mf.look2 {z : Value} (hz : ∀ W : World, (zeroValue et).run Tryz.prog W = .ok z W) : (Instr.lookup t (.map (some m)) (nmV s) true).run Tryz.prog w = .ok (.tuple #[(φ s).getD z, .bool (φ s).isSome]) w := by
  obtain ⟨L, ⟨es, ck, h1, h2, h4⟩, h5, h3⟩ := h
  rw [← h3 s]
  obtain ⟨l, hl⟩ := nmKey s (by unfold maxLen; omega)
  cases hr : mpF L s with
  | none =>
    have hno := mp_none h4 hr
    simp [Instr.lookup, run_underlying ht, MapKept.run_getObj_map h1, strLaw.check w _ hl, find_none strLaw h2 hl hno, hz w, Result.andThen]
  | some p =>
    have hm := List.mem_of_find?_eq_some hr
    have hp : p.1 = s := by have := List.find?_some hr; simpa using this
    obtain ⟨j, hj⟩ := List.mem_iff_getElem?.1 hm
    obtain ⟨e, he, k1, k2⟩ := mp_at h4 hj
    simp [Instr.lookup, run_underlying ht, MapKept.run_getObj_map h1, strLaw.check w _ hl, find_some strLaw h2 hl he (by rw [k1, hp]), Result.andThen, k2]
end
end Go.Proofs.YtjebjninlejoeaaGreatDoor

