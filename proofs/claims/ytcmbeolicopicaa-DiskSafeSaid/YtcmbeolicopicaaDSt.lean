/- disk: a disk in memory. -/
import Derived.Test.YtcmbeolicopicaaDMap
import Derived.Test.YtcmbeolicopicaaDPlain
namespace Go.Proofs.Ytcmbeolicopicaa
open Go.RowKit Go.Maps Go.ChangeMaps
set_option linter.unusedVariables false
set_option linter.unusedSimpArgs false
set_option maxRecDepth 100000

/-- A file in memory: its struct's block, the slice of its bytes. -/
structure DF where
  s : Nm
  g : Nat
  A : Option Addr
  c : Nat
  l : List Int
  n : Nat
def DF.fe (f : DF) : FE := ⟨f.s, f.l, f.n⟩
def DF.val (f : DF) : Value := .pointer (some ⟨f.g, 0, none⟩)
def DF.dv (f : DF) : Value := .slice f.A f.l.length f.c
/-- A disk: the map's block, the room, the files. -/
structure DSt where
  m : Nat
  room : Int
  fs : List DF
structure FAt (w : World) (f : DF) : Prop where
  bk : Bk w f.g 58 [f.dv, .int .i64 f.n]
  dat : Dat w (fun _ => True) f.A f.c f.l
  len : f.l.length ≤ 8388608
  nl : f.n ≤ f.l.length
  sl : f.s.length ≤ 24
def FSep (f f' : DF) : Prop := f.g ≠ f'.g ∧ ∀ k, f.dv.ownBlock = some k → f'.dv.ownBlock ≠ some k
theorem FSep.symm {f f' : DF} (h : FSep f f') : FSep f' f := ⟨fun e => h.1 e.symm, fun k h1 h2 => h.2 k h2 h1⟩
structure DskAt (w : World) (D : Nat) (st : DSt) : Prop where
  dsk : Bk w D 49 [.map (some st.m), .int .i64 st.room]
  map : ∃ es ck, w.heap[st.m]? = some (.map es.toArray ck) ∧ EsOk Try.prog 9 es ck ∧ es.map (fun e => (e.key, e.val)) = st.fs.map fun f => (nmV f.s, f.val)
  file : ∀ f ∈ st.fs, FAt w f
  apart : st.fs.Pairwise FSep
/-- What a disk may write. -/
def DOwn (st : DSt) (k : Nat) : Prop := k = st.m ∨ ∃ f ∈ st.fs, f.g = k ∨ f.dv.ownBlock = some k
theorem FAt.keep {w w' : World} {f : DF} (h : FAt w f) (hg : w'.heap[f.g]? = w.heap[f.g]?) (hd : ∀ b, f.dv.ownBlock = some b → w'.heap[b]? = w.heap[b]?) (hs : w.heap.size ≤ w'.heap.size) : FAt w' f := by
  refine ⟨hg.trans h.bk, ?_, h.len, h.nl, h.sl⟩
  obtain ⟨b, h1, h2⟩ := h.dat
  exact ⟨b, h1.keep (fun e => hd b e), fun e => ⟨trivial, Nat.lt_of_lt_of_le (h2 e).2 hs⟩⟩
theorem FAt.dlt {w : World} {f : DF} (h : FAt w f) {b : Nat} (hb : f.dv.ownBlock = some b) : b < w.heap.size := by
  rcases h.dat.form with ⟨e, _⟩ | ⟨b', cur, e, _, hlt, _⟩
  · rw [DF.dv, e] at hb; cases hb
  · rw [DF.dv, e] at hb
    have hb : some b' = some b := hb
    injection hb with hb
    rw [← hb]; exact hlt
theorem FAt.dub {w : World} {f : DF} (h : FAt w f) {b : Nat} (hb : f.dv.ownBlock = some b) : ∃ cs, w.heap[b]? = some (.cells cs 5 (0, 0)) := by
  rcases h.dat.form with ⟨e, _⟩ | ⟨b', cur, e, _, hlt, hg, _⟩
  · rw [DF.dv, e] at hb; cases hb
  · rw [DF.dv, e] at hb
    have hb : some b' = some b := hb
    injection hb with hb
    rw [← hb]; exact ⟨cur, hg⟩
theorem DskAt.mlt {w : World} {D : Nat} {st : DSt} (h : DskAt w D st) : st.m < w.heap.size := by
  obtain ⟨es, c, h1, _⟩ := h.map
  exact (Array.getElem?_eq_some_iff.1 h1).1
theorem DskAt.olt {w : World} {D : Nat} {st : DSt} (h : DskAt w D st) {k : Nat} (hk : DOwn st k) : k < w.heap.size := by
  rcases hk with rfl | ⟨f, hf, rfl | e⟩
  · exact h.mlt
  · exact (h.file f hf).bk.lt
  · exact (h.file f hf).dlt e
theorem DskAt.keep {w w' : World} {D : Nat} {st : DSt} (h : DskAt w D st) (hD : w'.heap[D]? = w.heap[D]?) (ho : ∀ k, DOwn st k → w'.heap[k]? = w.heap[k]?) (hs : w.heap.size ≤ w'.heap.size) : DskAt w' D st := by
  obtain ⟨es, c, h1, h2, h3⟩ := h.map
  exact ⟨hD.trans h.dsk, ⟨es, c, (ho _ (.inl rfl)).trans h1, h2, h3⟩, fun f hf => (h.file f hf).keep (ho _ (.inr ⟨f, hf, .inl rfl⟩)) (fun b e => ho b (.inr ⟨f, hf, .inr e⟩)) hs, h.apart⟩
theorem DskAt.below {w w' : World} {D : Nat} {st : DSt} (h : DskAt w D st) (hb : Below w.heap.size w w') : DskAt w' D st :=
  h.keep (hb.block _ h.dsk.lt) (fun k hk => hb.block k (h.olt hk)) hb.size
theorem DskAt.heap_ {w w' : World} {D : Nat} {st : DSt} (h : DskAt w D st) (e : w'.heap = w.heap) : DskAt w' D st := h.keep (by rw [e]) (fun _ _ => by rw [e]) (by rw [e]; exact Nat.le_refl _)
/-- The disk's own block is none of these. -/
theorem DskAt.notOwn {w : World} {D : Nat} {st : DSt} (h : DskAt w D st) : ¬ DOwn st D := by
  have hD := h.dsk
  unfold Bk at hD
  rintro (e | ⟨f, hf, e | e⟩)
  · obtain ⟨es, c, h1, _⟩ := h.map
    rw [← e, hD] at h1; cases h1
  · have := (h.file f hf).bk
    unfold Bk at this
    rw [e, hD] at this
    injection this with this
    injection this with _ this
    exact absurd this (by decide)
  · obtain ⟨cs, hc⟩ := (h.file f hf).dub e
    rw [hD] at hc
    injection hc with hc
    injection hc with _ hc
    exact absurd hc (by decide)
theorem DskAt.mg {w : World} {D : Nat} {st : DSt} (h : DskAt w D st) {f : DF} (hf : f ∈ st.fs) : f.g ≠ st.m := by
  intro e
  obtain ⟨es, c, h1, _⟩ := h.map
  have := (h.file f hf).bk
  unfold Bk at this
  rw [e, h1] at this; cases this
theorem DskAt.md {w : World} {D : Nat} {st : DSt} (h : DskAt w D st) {f : DF} (hf : f ∈ st.fs) : f.dv.ownBlock ≠ some st.m := by
  intro e
  obtain ⟨es, c, h1, _⟩ := h.map
  obtain ⟨cs, hc⟩ := (h.file f hf).dub e
  rw [h1] at hc; cases hc
theorem DskAt.gd {w : World} {D : Nat} {st : DSt} (h : DskAt w D st) {f f' : DF} (hf : f ∈ st.fs) (hf' : f' ∈ st.fs) : f'.dv.ownBlock ≠ some f.g := by
  intro e
  have h1 := (h.file f hf).bk
  obtain ⟨cs, hc⟩ := (h.file f' hf').dub e
  unfold Bk at h1
  rw [h1] at hc
  injection hc with hc
  injection hc with _ hc
  exact absurd hc (by decide)
theorem DskAt.sep {w : World} {D : Nat} {st : DSt} (h : DskAt w D st) {i j : Nat} {f f' : DF} (hi : st.fs[i]? = some f) (hj : st.fs[j]? = some f') (hne : i ≠ j) : FSep f f' := by
  obtain ⟨i1, rfl⟩ := List.getElem?_eq_some_iff.1 hi
  obtain ⟨j1, rfl⟩ := List.getElem?_eq_some_iff.1 hj
  rcases Nat.lt_or_gt_of_ne hne with q | q
  · exact List.pairwise_iff_getElem.1 h.apart i j i1 j1 q
  · exact (List.pairwise_iff_getElem.1 h.apart j i j1 i1 q).symm
/-- No name twice. -/
theorem DskAt.dis {w : World} {D : Nat} {st : DSt} (h : DskAt w D st) : Dis (st.fs.map DF.fe) := by
  obtain ⟨es, c, _, h2, h3⟩ := h.map
  have h4 : (es.map fun e => (e.key, e.val)).Pairwise fun a b => a.1 ≠ b.1 := List.pairwise_map.2 h2.apart
  rw [h3] at h4
  rw [Dis, List.pairwise_map]
  exact (List.pairwise_map.1 h4).imp fun hn e => hn (by have e : _ = _ := e; simp only [DF.fe] at e; simp only [e])
def fdD (st : DSt) (s : Nm) : Option DF := st.fs.find? fun f => decide (f.s = s)
theorem fdD_some {st : DSt} {s : Nm} {f : DF} (h : fdD st s = some f) : f ∈ st.fs ∧ f.s = s :=
  ⟨List.mem_of_find?_eq_some h, by have := List.find?_some h; simpa using this⟩
theorem fdD_none {st : DSt} {s : Nm} (h : fdD st s = none) : ∀ f ∈ st.fs, f.s ≠ s := by
  intro f hf
  have := List.find?_eq_none.1 h f hf
  simpa using this
theorem fdD_fd (st : DSt) (s : Nm) : fd (st.fs.map DF.fe) s = (fdD st s).map DF.fe := by
  unfold fd fdD
  rw [List.find?_map]
  rfl
theorem ent_at {es : List MapEntry} {fs : List DF} (h : es.map (fun e => (e.key, e.val)) = fs.map fun f => (nmV f.s, f.val)) {j : Nat} {f : DF} (hj : fs[j]? = some f) : ∃ e, es[j]? = some e ∧ e.key = nmV f.s ∧ e.val = f.val := by
  have h1 := congrArg (fun l => l[j]?) h
  simp only [List.getElem?_map, hj, Option.map_some] at h1
  cases h2 : es[j]? with
  | none => rw [h2] at h1; cases h1
  | some e =>
    rw [h2] at h1
    simp at h1
    exact ⟨e, rfl, h1⟩
theorem ent_of {es : List MapEntry} {fs : List DF} (h : es.map (fun e => (e.key, e.val)) = fs.map fun f => (nmV f.s, f.val)) {e : MapEntry} (he : e ∈ es) : ∃ f ∈ fs, e.key = nmV f.s ∧ e.val = f.val := by
  have h1 : (e.key, e.val) ∈ fs.map fun f => (nmV f.s, f.val) := by rw [← h]; exact List.mem_map.2 ⟨e, he, rfl⟩
  obtain ⟨f, hf, e1⟩ := List.mem_map.1 h1
  injection e1 with e1 e2
  exact ⟨f, hf, e1.symm, e2.symm⟩
theorem ent_none {es : List MapEntry} {fs : List DF} (h : es.map (fun e => (e.key, e.val)) = fs.map fun f => (nmV f.s, f.val)) {s : Nm} (hno : ∀ f ∈ fs, f.s ≠ s) : ∀ e ∈ es, e.key ≠ nmV s := by
  intro e he hk
  obtain ⟨f, hf, e1, _⟩ := ent_of h he
  exact hno f hf (nmV_inj (e1.symm.trans hk))
/-- What a look-up tells. -/
def lookV : Option DF → Value
  | some f => f.val
  | none => .pointer none
theorem DskAt.look {w : World} {D : Nat} {st : DSt} (h : DskAt w D st) (s : Nm) (hs : s.length ≤ maxLen) (W : World) (hW : W.heap = w.heap) :
    (Instr.lookup 45 (.map (some st.m)) (nmV s) false).run Try.prog W = .ok (lookV (fdD st s)) W := by
  obtain ⟨es, ck, h1, h2, h3⟩ := h.map
  obtain ⟨l, hl⟩ := nmKey s hs
  rw [← hW] at h1
  cases hr : fdD st s with
  | none => exact run_look_none strLaw mapTy h1 h2 hl (ent_none h3 (fdD_none hr)) (zeroPtr W)
  | some f =>
    obtain ⟨hm, rfl⟩ := fdD_some hr
    obtain ⟨j, hj⟩ := List.mem_iff_getElem?.1 hm
    obtain ⟨e, he, k1, k2⟩ := ent_at h3 hj
    rw [run_look_some strLaw mapTy h1 h2 hl he k1, k2]
    rfl
/-- A file is turned; its struct stays where it is. -/
theorem DskAt.setFile {w w' : World} {D : Nat} {st : DSt} (h : DskAt w D st) {j : Nat} {f f' : DF} (hj : st.fs[j]? = some f) (e1 : f'.s = f.s) (e2 : f'.g = f.g) (hf : FAt w' f')
    (hnew : ∀ b, f'.dv.ownBlock = some b → f.dv.ownBlock = some b ∨ w.heap.size ≤ b) (hk : ∀ k, k < w.heap.size → k ≠ f.g → f.dv.ownBlock ≠ some k → w'.heap[k]? = w.heap[k]?) (hs : w.heap.size ≤ w'.heap.size) :
    DskAt w' D ⟨st.m, st.room, st.fs.set j f'⟩ := by
  obtain ⟨es, ck, h1, h2, h3⟩ := h.map
  have hmem := List.mem_of_getElem? hj
  have hD := h.notOwn
  refine ⟨(hk D h.dsk.lt (fun e => hD (.inr ⟨f, hmem, .inl e.symm⟩)) (fun e => hD (.inr ⟨f, hmem, .inr e⟩))).trans h.dsk, ⟨es, ck, (hk _ h.mlt (fun e => h.mg hmem e.symm) (h.md hmem)).trans h1, h2, ?_⟩, fun x hx => ?_, ?_⟩
  · rw [h3]
    refine List.ext_getElem? fun i => ?_
    rw [List.getElem?_map, List.getElem?_map, List.getElem?_set]
    by_cases hi : j = i
    · subst hi; rw [if_pos rfl, if_pos (List.getElem?_eq_some_iff.1 hj).1, hj]; simp [e1, e2, DF.val]
    · rw [if_neg hi]
  · obtain ⟨i, hi⟩ := List.mem_iff_getElem?.1 hx
    rw [List.getElem?_set] at hi
    by_cases hij : j = i
    · subst hij
      rw [if_pos rfl, if_pos (List.getElem?_eq_some_iff.1 hj).1] at hi
      injection hi with hi
      rw [← hi]; exact hf
    · rw [if_neg hij] at hi
      have hs' := h.sep hi hj (fun e => hij e.symm)
      have hxm := List.mem_of_getElem? hi
      exact (h.file x hxm).keep (hk _ (h.file x hxm).bk.lt hs'.1 (h.gd hxm hmem)) (fun b hb => hk b ((h.file x hxm).dlt hb) (fun e => h.gd hmem hxm (e ▸ hb)) (fun e => hs'.2 b hb e)) hs
  · rw [List.pairwise_iff_getElem]
    intro a b ha hb hab
    simp at ha hb
    rw [List.getElem_set, List.getElem_set]
    have key : ∀ i x, i ≠ j → st.fs[i]? = some x → FSep f' x := by
      intro i x hij hi
      have hs' := h.sep hj hi (fun e => hij e.symm)
      have hxm := List.mem_of_getElem? hi
      refine ⟨by rw [e2]; exact hs'.1, fun k k1 k2 => ?_⟩
      rcases hnew k k1 with q | q
      · exact hs'.2 k q k2
      · have := (h.file x hxm).dlt k2; omega
    split
    · next q =>
      rw [if_neg (by omega)]
      exact key b _ (by omega) (List.getElem?_eq_getElem hb)
    · next q =>
      split
      · next q' => exact (key a _ (by omega) (List.getElem?_eq_getElem ha)).symm
      · exact List.pairwise_iff_getElem.1 h.apart a b ha hb hab
/-- A file of a new name. -/
theorem DskAt.pushFile {w w' : World} {D : Nat} {st : DSt} (h : DskAt w D st) {f' : DF} (hno : ∀ f ∈ st.fs, f.s ≠ f'.s) (hf : FAt w' f') (hg : w.heap.size ≤ f'.g)
    (hnew : ∀ b, f'.dv.ownBlock = some b → w.heap.size ≤ b) (hk : ∀ k, k < w.heap.size → k ≠ st.m → w'.heap[k]? = w.heap[k]?) (hs : w.heap.size ≤ w'.heap.size)
    (hm : ∀ (es : List MapEntry) (ck : Nat), w.heap[st.m]? = some (.map es.toArray ck) → w'.heap[st.m]? = some (.map (es ++ [({ key := nmV f'.s, val := f'.val, born := ck } : MapEntry)]).toArray (ck + 1))) :
    DskAt w' D ⟨st.m, st.room, st.fs ++ [f']⟩ := by
  obtain ⟨es, ck, h1, h2, h3⟩ := h.map
  obtain ⟨l, hl⟩ := nmKey f'.s (by have := hf.sl; unfold maxLen; omega)
  refine ⟨(hk D h.dsk.lt (fun e => h.notOwn (.inl e))).trans h.dsk, ⟨_, _, hm es ck h1, h2.push hl (ent_none h3 hno) _, by simp [h3]⟩, fun x hx => ?_, ?_⟩
  · rcases List.mem_append.1 hx with hx | hx
    · exact (h.file x hx).keep (hk _ (h.file x hx).bk.lt (h.mg hx)) (fun b hb => hk b ((h.file x hx).dlt hb) (fun e => h.md hx (e ▸ hb))) hs
    · simp at hx; rw [hx]; exact hf
  · refine List.pairwise_append.2 ⟨h.apart, List.pairwise_singleton _ _, fun x hx y hy => ?_⟩
    simp at hy
    subst hy
    refine ⟨fun e => ?_, fun k k1 k2 => ?_⟩
    · have := (h.file x hx).bk.lt; omega
    · have := (h.file x hx).dlt k1; have := hnew k k2; omega
/-- A file is taken away. -/
theorem DskAt.eraseFile {w w' : World} {D : Nat} {st : DSt} (h : DskAt w D st) {j : Nat} (hk : ∀ k, k < w.heap.size → k ≠ st.m → w'.heap[k]? = w.heap[k]?) (hs : w.heap.size ≤ w'.heap.size)
    (hm : ∀ (es : List MapEntry) (ck : Nat), w.heap[st.m]? = some (.map es.toArray ck) → w'.heap[st.m]? = some (.map (es.eraseIdx j).toArray ck)) : DskAt w' D ⟨st.m, st.room, st.fs.eraseIdx j⟩ := by
  obtain ⟨es, ck, h1, h2, h3⟩ := h.map
  have hsub : ∀ x, x ∈ st.fs.eraseIdx j → x ∈ st.fs := fun x hx => (List.eraseIdx_sublist _ _).subset hx
  refine ⟨(hk D h.dsk.lt (fun e => h.notOwn (.inl e))).trans h.dsk, ⟨_, _, hm es ck h1, h2.erase j, ?_⟩, fun x hx => ?_, h.apart.sublist (List.eraseIdx_sublist _ _)⟩
  · have e1 : ∀ {α β : Type} (g : α → β) (l : List α), (l.eraseIdx j).map g = (l.map g).eraseIdx j := by
      intro α β g l
      refine List.ext_getElem? fun i => ?_
      rw [List.getElem?_map, List.getElem?_eraseIdx, List.getElem?_eraseIdx]
      split <;> rw [List.getElem?_map]
    rw [e1, e1, h3]
  · have hx := hsub x hx
    exact (h.file x hx).keep (hk _ (h.file x hx).bk.lt (h.mg hx)) (fun b hb => hk b ((h.file x hx).dlt hb) (fun e => h.md hx (e ▸ hb))) hs
end Go.Proofs.Ytcmbeolicopicaa
