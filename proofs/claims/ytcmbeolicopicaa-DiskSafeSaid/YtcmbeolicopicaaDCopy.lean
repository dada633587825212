/- disk: Copy. -/
import Derived.Test.YtcmbeolicopicaaDCr
namespace Go.Proofs.Ytcmbeolicopicaa
open Go.RowKit Go.Maps Go.ChangeMaps
set_option linter.unusedVariables false
set_option linter.unusedSectionVars false
set_option linter.unusedSimpArgs false
set_option maxRecDepth 100000

theorem key_one {es : List MapEntry} {ck : Nat} (h : EsOk Try.prog 9 es ck) {a b : MapEntry} (ha : a ∈ es) (hb : b ∈ es) (e : a.key = b.key) : a = b := by
  obtain ⟨i, hi, rfl⟩ := List.getElem_of_mem ha
  obtain ⟨j, hj, rfl⟩ := List.getElem_of_mem hb
  rcases Nat.lt_trichotomy i j with q | q | q
  · exact absurd e (List.pairwise_iff_getElem.1 h.apart i j hi hj q)
  · subst q; rfl
  · exact absurd e.symm (List.pairwise_iff_getElem.1 h.apart j i hj hi q)
/-- A file that comes has not come. -/
theorem Cm.fresh {W : World} {st : DSt} {m r ck : Nat} {es ss : List MapEntry} {fl : List DF} {e : MapEntry} {f : DF} (h : Cm st ss fl) (ho : EsOk Try.prog 9 es ck) (hI : It W m r es ck (ss ++ [e])) (ek : e.key = nmV f.s) : ∀ x ∈ fl, x.s ≠ f.s := by
  intro x hx hxs
  have h1 : (nmV x.s, x.val) ∈ fl.map fun f => (nmV f.s, f.val) := List.mem_map.2 ⟨x, hx, rfl⟩
  rw [← h.eq] at h1
  obtain ⟨e', he', q⟩ := List.mem_map.1 h1
  injection q with q1 q2
  have := key_one ho (hI.sub e' (by simp [he'])) (hI.sub e (by simp)) (by rw [q1, ek, hxs])
  subst this
  have nd := hI.nd
  rw [List.map_append, List.nodup_append] at nd
  exact nd.2.2 _ (List.mem_map.2 ⟨e', he', rfl⟩) _ (by simp) rfl
/-- What holds between two rounds. -/
structure CpI (D2 : Nat) (room : Int) (w : World) (st : DSt) (r : Nat) (es : List MapEntry) (ck : Nat) (ss : List MapEntry) (fl : List DF) (B2 : Nat → Prop) (L2 : List FE) (st2 : DSt) (W : World) : Prop where
  it : It W st.m r es ck ss
  cm : Cm st ss fl
  out : DBs B2 D2 room L2 fl.length st2 W
  perm : (fl.map DF.fe).Perm L2
  own : ∀ k, B2 k → w.heap.size ≤ k ∧ k ≠ r
  low : Below w.heap.size w W
section
variable {B : Nat → Prop} {D n D2 : Nat} {room room2 : Int} {L : List FE} {st : DSt} {w : World} (h : DBs B D room L n st w) {r : Nat} {es : List MapEntry} {ck : Nat} {ss : List MapEntry} {fl : List DF} {B2 : Nat → Prop} {L2 : List FE} {st2 : DSt} {W : World}
include h
/-- A round's entry comes. -/
theorem CpI.came (hI : CpI D2 room2 w st r es ck ss fl B2 L2 st2 W) (hes : es.map (fun e => (e.key, e.val)) = st.fs.map fun f => (nmV f.s, f.val)) (ho : EsOk Try.prog 9 es ck) (hr : w.heap.size ≤ r) {e : MapEntry} (he : e ∈ es) {w2 : World} (hI2 : It w2 st.m r es ck (ss ++ [e])) (ha : Ag (fun k => k ≠ r) W w2) :
    ∃ f : DF, f ∈ st.fs ∧ e.val = f.val ∧ e.key = nmV f.s ∧ Cm st (ss ++ [e]) (fl ++ [f]) ∧ FAt w2 f ∧ DBs B2 D2 room2 L2 fl.length st2 w2 ∧ (∀ x ∈ fl, x.s ≠ f.s) ∧ Below w.heap.size w w2 := by
  obtain ⟨f, hf, e1, e2, hC2⟩ := hI.cm.more hes he
  have hb2 : Below w.heap.size w w2 := ⟨ha.os.trans hI.low.os, ha.tape.trans hI.low.tape, ha.output.trans hI.low.output, Nat.le_trans hI.low.size ha.size, fun k hk => (ha.block k (Nat.lt_of_lt_of_le hk hI.low.size) (by omega)).trans (hI.low.block k hk)⟩
  have hO := hI.out
  have hO2 : DBs B2 D2 room2 L2 fl.length st2 w2 := ⟨hO.dsk.keep (ha.block _ hO.dsk.dsk.lt (hI.own _ hO.hD).2) (fun k q => ha.block k (hO.dsk.olt q) (hI.own k (hO.own k q)).2) ha.size, hO.room, hO.perm, hO.srt, hO.own, hO.hD, fun j q => Nat.lt_of_lt_of_le (hO.lt j q) ha.size, hO.few, hO.nn, hO.len⟩
  exact ⟨f, hf, e2, e1, hC2, (h.dsk.below hb2).file f hf, hO2, hI.cm.fresh ho hI2 e1, hb2⟩
/-- .. and its file is put into the copy. -/
theorem CpI.put {f : DF} {e : MapEntry} {w2 w4 w5 : World} (hI : CpI D2 room2 w st r es ck ss fl B2 L2 st2 W) (hr : w.heap.size ≤ r) (hI2 : It w2 st.m r es ck (ss ++ [e])) (hf : f ∈ st.fs) (hC2 : Cm st (ss ++ [e]) (fl ++ [f])) (hO2 : DBs B2 D2 room2 L2 fl.length st2 w2) (hfresh : ∀ x ∈ fl, x.s ≠ f.s) (hb2 : Below w.heap.size w w2) (hn : fl.length + 1 ≤ 1000000)
    (hb4 : Below w2.heap.size w2 w4) {g : Nat} {A : Option Addr} {c : Nat} (hg : w2.heap.size ≤ g) (hG : Bk w4 g 58 [.slice A f.l.length c, .int .i64 f.n]) (hd : Dat w4 (fun b => w2.heap.size ≤ b) A c f.l) (hF : FAt w2 f)
    (hmt : MapTo st2.m w4 w5) (hm : ∀ (es : List MapEntry) (ck : Nat), w4.heap[st2.m]? = some (.map es.toArray ck) → w5.heap[st2.m]? = some (.map (es ++ [({ key := nmV f.s, val := .pointer (some ⟨g, 0, none⟩), born := ck } : MapEntry)]).toArray (ck + 1))) :
    ∃ B3 st3, CpI D2 room2 w st r es ck (ss ++ [e]) (fl ++ [f]) B3 (putF L2 f.fe) st3 w5 := by
  have hm2 := hO2.dsk.mlt
  have hno : ∀ x ∈ st2.fs, x.s ≠ f.s := by
    intro x hx q
    have h1 : x.fe ∈ st2.fs.map DF.fe := List.mem_map.2 ⟨x, hx, rfl⟩
    have h2 := hI.perm.mem_iff.2 (hO2.perm.mem_iff.1 h1)
    obtain ⟨y, hy, q2⟩ := List.mem_map.1 h2
    exact hfresh y hy ((congrArg FE.s q2).trans q)
  have hd5 : Dat w5 (fun _ => True) A c f.l := hd.keep (fun b q _ => hmt.far b (by omega)) (by rw [hmt.size]; exact Nat.le_refl _) (fun _ _ _ => trivial)
  have hown : ∀ b, (Value.slice A f.l.length c).ownBlock = some b → w2.heap.size ≤ b := by
    intro b q
    rcases hd.form with ⟨e1, _⟩ | ⟨b', cur, e1, hk', _⟩
    · rw [e1] at q; cases q
    · rw [e1] at q
      have q : some b' = some b := q
      injection q with q
      rw [← q]; exact hk'
  obtain ⟨B3, p1, ⟨st3, p2⟩, p3⟩ := hO2.pushF (w' := w5) (f' := ⟨f.s, g, A, c, f.l, f.n⟩) hno ⟨(hmt.far g (by omega)).trans hG, hd5, hF.len, hF.nl, hF.sl⟩ hg hown (fun k k1 k2 => (hmt.far k k2).trans (hb4.block k k1)) (by rw [hmt.size]; exact hb4.size)
    ⟨hmt.os.trans hb4.os, hmt.tape.trans hb4.tape, hmt.output.trans hb4.output⟩ (fun es ck he => hm es ck ((hb4.block _ hm2).trans he)) hn
  have hlt := hI2.lt
  refine ⟨B3, st3, hI2.keep (p3.block _ hlt.1 (fun q => ?_)) (p3.block _ hlt.2 (fun q => (hI.own r q).2 rfl)), hC2, by rw [List.length_append]; exact p2, ?_, fun k q => ?_, ?_⟩
  · have h1 := (hI.own st.m q).1
    have h2 := h.dsk.mlt
    omega
  · rw [List.map_append]
    exact perm_push (hI.perm.symm.pairwise hO2.srt.dis fun hn => Ne.symm hn) hO2.srt hI.perm (g := f.fe) (fun x hx => by obtain ⟨y, hy, rfl⟩ := List.mem_map.1 hx; exact hfresh y hy)
  · have h3 := hb2.size
    rcases p1 k q with q | q
    · exact hI.own k q
    · exact ⟨by omega, by omega⟩
  · exact hb2.trans (p3.below (n := w.heap.size) (fun j q => (hI.own j q).1) hb2.size)
end
end Go.Proofs.Ytcmbeolicopicaa

