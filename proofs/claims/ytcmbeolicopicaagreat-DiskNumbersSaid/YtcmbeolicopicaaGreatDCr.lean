/- disk: Crash. -/
import Derived.Test.YtcmbeolicopicaaGreatZ6
namespace Go.Proofs.YtcmbeolicopicaaGreat
open Go.RowKit Go.Maps Go.ChangeMaps
set_option linter.unusedVariables false
set_option linter.unusedSectionVars false
set_option linter.unusedSimpArgs false
set_option maxRecDepth 100000

/-- What a crash leaves of a file. -/
def crK (keep : Int) (f : FE) : Nat := f.n + min (max keep 0).toNat (f.l.length - f.n)
def crF (keep : Int) (f : FE) : FE := ⟨f.s, f.l.take (crK keep f), crK keep f⟩
theorem crK_le {keep : Int} {f : FE} (h : f.n ≤ f.l.length) : crK keep f ≤ f.l.length := by unfold crK; omega
theorem crF_idem {keep : Int} {f : FE} (h : f.n ≤ f.l.length) : crF keep (crF keep f) = crF keep f := by
  have h1 := crK_le (keep := keep) h
  have h2 : (crF keep f).l.length = crK keep f := by simp [crF]; omega
  have h3 : crK keep (crF keep f) = crK keep f := by
    rw [crK, h2]
    show crK keep f + min _ (crK keep f - crK keep f) = _
    omega
  rw [crF, h3]
  simp [crF, List.take_take]
/-- Some of the files were cut. -/
structure Cr (st : DSt) (keep : Int) (fl fs' : List DF) : Prop where
  len : fs'.length = st.fs.length
  at_ : ∀ (j : Nat) (x y : DF), fs'[j]? = some x → st.fs[j]? = some y → x.s = y.s ∧ x.g = y.g ∧ (x.fe = y.fe ∨ x.fe = crF keep y.fe) ∧ (y ∈ fl → x.fe = crF keep y.fe)
theorem Cr.start (st : DSt) (keep : Int) : Cr st keep [] st.fs := ⟨rfl, fun j x y hx hy => by
  rw [hx] at hy
  injection hy with hy
  subst hy
  exact ⟨rfl, rfl, .inl rfl, fun h => by cases h⟩⟩
theorem Cr.step {st : DSt} {keep : Int} {fl fs' : List DF} (h : Cr st keep fl fs') (hap : ∀ (i j : Nat) (x y : DF), i ≠ j → st.fs[i]? = some x → st.fs[j]? = some y → x.g ≠ y.g) {j : Nat} {f x f2 : DF} (hj : st.fs[j]? = some f) (hx : fs'[j]? = some x) (e1 : f2.s = x.s) (e2 : f2.g = x.g) (e3 : f2.fe = crF keep x.fe) (hn : f.n ≤ f.l.length) :
    Cr st keep (fl ++ [f]) (fs'.set j f2) := by
  obtain ⟨k1, k2, k3, k4⟩ := h.at_ j x f hx hj
  have e4 : f2.fe = crF keep f.fe := by
    rw [e3]
    rcases k3 with q | q
    · rw [q]
    · rw [q]; exact crF_idem hn
  refine ⟨by rw [List.length_set]; exact h.len, fun i a b ha hb => ?_⟩
  rw [List.getElem?_set] at ha
  by_cases hi : j = i
  · subst hi
    rw [if_pos rfl, if_pos (List.getElem?_eq_some_iff.1 hx).1] at ha
    injection ha with ha
    subst ha
    rw [hj] at hb
    injection hb with hb
    subst hb
    exact ⟨e1.trans k1, e2.trans k2, .inr e4, fun _ => e4⟩
  · rw [if_neg hi] at ha
    obtain ⟨q1, q2, q3, q4⟩ := h.at_ i a b ha hb
    refine ⟨q1, q2, q3, fun hm => ?_⟩
    rcases List.mem_append.1 hm with hm | hm
    · exact q4 hm
    · simp at hm
      subst hm
      exact absurd rfl (hap i j b b (fun e => hi e.symm) hb hj)
theorem Cr.fin {st : DSt} {keep : Int} {fl fs' : List DF} (h : Cr st keep fl fs') (hp : ∀ y ∈ st.fs, y ∈ fl) : fs'.map DF.fe = (st.fs.map DF.fe).map (crF keep) := by
  refine List.ext_getElem? fun i => ?_
  rw [List.getElem?_map, List.getElem?_map, List.getElem?_map]
  cases hi : st.fs[i]? with
  | none =>
    have : fs'[i]? = none := by rw [List.getElem?_eq_none_iff] at hi ⊢; have := h.len; omega
    rw [this]; rfl
  | some y =>
    have hlt := (List.getElem?_eq_some_iff.1 hi).1
    have hx : fs'[i]? = some (fs'[i]'(by have := h.len; omega)) := List.getElem?_eq_getElem _
    rw [hx]
    simp only [Option.map_some]
    rw [(h.at_ i _ y hx hi).2.2.2 (hp y (List.mem_of_getElem? hi))]
theorem srt_cr {L : List FE} (h : Srt L) (keep : Int) : Srt (L.map (crF keep)) := by
  rw [Srt, List.pairwise_map]; exact h
/-- What holds between two rounds. -/
structure CrI (B : Nat → Prop) (w : World) (D : Nat) (st : DSt) (keep : Int) (r : Nat) (es : List MapEntry) (ck : Nat) (ss : List MapEntry) (fl fs' : List DF) (W : World) : Prop where
  it : It W st.m r es ck ss
  cm : Cm st ss fl
  cr : Cr st keep fl fs'
  dsk : DskAt W D ⟨st.m, st.room, fs'⟩
  own : ∀ k, DOwn ⟨st.m, st.room, fs'⟩ k → (B k ∨ w.heap.size ≤ k) ∧ k ≠ r
  lv : Lv B w W
section
variable {B : Nat → Prop} {D n : Nat} {room : Int} {L : List FE} {st : DSt} {w : World} (h : DBs B D room L n st w) {keep : Int} {r : Nat} {es : List MapEntry} {ck : Nat} {ss : List MapEntry} {fl fs' : List DF} {W : World}
include h
theorem CrI.start (hI : It W st.m w.heap.size es ck []) (hb : Below w.heap.size w W) : CrI B w D st keep w.heap.size es ck [] [] st.fs W :=
  ⟨hI, Cm.nil st, Cr.start st keep, h.dsk.below hb, fun k q => ⟨.inl (h.own k q), by have := h.lt k (h.own k q); omega⟩, Below.lv hb⟩
/-- A round's entry comes. -/
theorem CrI.came (hI : CrI B w D st keep r es ck ss fl fs' W) (hes : es.map (fun e => (e.key, e.val)) = st.fs.map fun f => (nmV f.s, f.val)) (hr : w.heap.size ≤ r) {e : MapEntry} (he : e ∈ es) {w2 : World} (hI2 : It w2 st.m r es ck (ss ++ [e])) (ha : Ag (fun k => k ≠ r) W w2) :
    ∃ (f x : DF) (j : Nat), st.fs[j]? = some f ∧ fs'[j]? = some x ∧ e.val = x.val ∧ e.key = nmV f.s ∧ Cm st (ss ++ [e]) (fl ++ [f]) ∧ DskAt w2 D ⟨st.m, st.room, fs'⟩ ∧ FAt w2 x ∧ Lv B w w2 := by
  obtain ⟨f, hf, e1, e2, hC2⟩ := hI.cm.more hes he
  obtain ⟨j, hj⟩ := List.mem_iff_getElem?.1 hf
  have hlt := (List.getElem?_eq_some_iff.1 hj).1
  have hx : fs'[j]? = some (fs'[j]'(by have := hI.cr.len; omega)) := List.getElem?_eq_getElem _
  have hd : DskAt w2 D ⟨st.m, st.room, fs'⟩ := hI.dsk.keep (ha.block D hI.dsk.dsk.lt (by have := h.dsk.dsk.lt; omega)) (fun k q => ha.block k (hI.dsk.olt q) (hI.own k q).2) ha.size
  refine ⟨f, _, j, hj, hx, ?_, e1, hC2, hd, hd.file _ (List.mem_of_getElem? hx), ?_⟩
  · rw [e2]
    have := (hI.cr.at_ j _ f hx hj).2.1
    simp only [DF.val, this]
  · have := hI.lv
    exact ⟨ha.os.trans this.os, ha.tape.trans this.tape, ha.output.trans this.output, Nat.le_trans this.size ha.size, fun k k1 k2 => (ha.block k (Nat.lt_of_lt_of_le k1 this.size) (by omega)).trans (this.block k k1 k2)⟩
/-- .. and its file is cut. -/
theorem CrI.cut {f x : DF} {j : Nat} {e : MapEntry} {w2 w3 : World} (hI : CrI B w D st keep r es ck ss fl fs' W) (hr : w.heap.size ≤ r) (hI2 : It w2 st.m r es ck (ss ++ [e])) (hj : st.fs[j]? = some f) (hx : fs'[j]? = some x) (hC2 : Cm st (ss ++ [e]) (fl ++ [f])) (hd : DskAt w2 D ⟨st.m, st.room, fs'⟩) (hlv : Lv B w w2)
    {A' : Option Addr} {c' : Nat} (hF : FAt w3 ⟨x.s, x.g, A', c', x.l.take (crK keep x.fe), crK keep x.fe⟩) (hown : ∀ b, (Value.slice A' (x.l.take (crK keep x.fe)).length c').ownBlock = some b → w2.heap.size ≤ b) (ha : Ag (fun j => j ≠ x.g) w2 w3) :
    CrI B w D st keep r es ck (ss ++ [e]) (fl ++ [f]) (fs'.set j ⟨x.s, x.g, A', c', x.l.take (crK keep x.fe), crK keep x.fe⟩) w3 := by
  have hxm := List.mem_of_getElem? hx
  have hfm := List.mem_of_getElem? hj
  have hg : x.g = f.g := (hI.cr.at_ j x f hx hj).2.1
  have hd3 := hd.setFile (w' := w3) (f' := ⟨x.s, x.g, A', c', x.l.take (crK keep x.fe), crK keep x.fe⟩) hx rfl rfl hF (fun b q => .inr (hown b q)) (fun k k1 k2 _ => ha.block k k1 k2) ha.size
  have hrx : r ≠ x.g := fun q => (hI.own x.g (.inr ⟨x, hxm, .inl rfl⟩)).2 q.symm
  refine ⟨hI2.keep (ha.block _ hI2.lt.1 (fun q => hd.mg hxm q.symm)) (ha.block _ hI2.lt.2 hrx), hC2, hI.cr.step (fun i k a b hik h1 h2 => (h.dsk.sep h1 h2 hik).1) hj hx rfl rfl rfl ((h.dsk.file f hfm).nl), hd3, fun k q => ?_, ?_⟩
  · rcases q with rfl | ⟨y, hy, q⟩
    · exact hI.own _ (.inl rfl)
    · rcases List.mem_or_eq_of_mem_set hy with hy | rfl
      · exact hI.own k (.inr ⟨y, hy, q⟩)
      · rcases q with q | q
        · exact hI.own k (.inr ⟨x, hxm, .inl q⟩)
        · have h1 := hown k q
          have h2 := hI2.lt.2
          exact ⟨.inr (Nat.le_trans hlv.size h1), by omega⟩
  · exact ⟨ha.os.trans hlv.os, ha.tape.trans hlv.tape, ha.output.trans hlv.output, Nat.le_trans hlv.size ha.size, fun k k1 k2 => (ha.block k (Nat.lt_of_lt_of_le k1 hlv.size) (fun q => k2 (by rw [q, hg]; exact h.own _ (.inr ⟨f, hfm, .inl rfl⟩)))).trans (hlv.block k k1 k2)⟩
theorem CrI.fin (hI : CrI B w D st keep r es ck ss fl fs' W) (hpf : fl.Perm st.fs) : DDid B D room (L.map (crF keep)) n w W := by
  have hm := hI.cr.fin (fun y hy => hpf.mem_iff.2 hy)
  refine ⟨fun k => (B k ∨ w.heap.size ≤ k) ∧ k < W.heap.size, fun k q => q.1, ⟨⟨st.m, st.room, fs'⟩, hI.dsk, h.room, by rw [show (DSt.fs ⟨st.m, st.room, fs'⟩).map DF.fe = _ from hm]; exact h.perm.map _, srt_cr h.srt keep, fun k q => ⟨(hI.own k q).1, hI.dsk.olt q⟩, ⟨.inl h.hD, hI.dsk.dsk.lt⟩, fun k q => q.2, by rw [List.length_map]; exact h.few, h.nn, fun f hf => ?_⟩, hI.lv⟩
  obtain ⟨g, hg, rfl⟩ := List.mem_map.1 hf
  obtain ⟨h1, h2, h3⟩ := h.len g hg
  have h4 := crK_le (keep := keep) h2
  refine ⟨?_, ?_, h3⟩
  · simp [crF]; omega
  · simp [crF]; omega
end
end Go.Proofs.YtcmbeolicopicaaGreat

