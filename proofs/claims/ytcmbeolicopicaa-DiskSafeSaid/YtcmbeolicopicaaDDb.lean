/- disk: a disk with these files. -/
import Derived.Test.YtcmbeolicopicaaDList
namespace Go.Proofs.Ytcmbeolicopicaa
open Go.RowKit Go.Maps Go.ChangeMaps
set_option linter.unusedVariables false
set_option linter.unusedSimpArgs false
set_option maxRecDepth 100000

/-- All blocks but those of B are as they were. -/
structure Lv (B : Nat → Prop) (w w' : World) : Prop where
  os : w'.os = w.os
  tape : w'.tape = w.tape
  output : w'.output = w.output
  size : w.heap.size ≤ w'.heap.size
  block : ∀ k, k < w.heap.size → ¬ B k → w'.heap[k]? = w.heap[k]?
theorem Below.lv {B : Nat → Prop} {w w' : World} (h : Below w.heap.size w w') : Lv B w w' := ⟨h.os, h.tape, h.output, h.size, fun k k1 _ => h.block k k1⟩
theorem Lv.below {B : Nat → Prop} {w w' : World} {n : Nat} (h : Lv B w w') (hB : ∀ j, B j → n ≤ j) (hn : n ≤ w.heap.size) : Below n w w' :=
  ⟨h.os, h.tape, h.output, h.size, fun k k1 => h.block k (Nat.lt_of_lt_of_le k1 hn) (fun e => by have := hB k e; omega)⟩
theorem Lv.trans {B B' : Nat → Prop} {w w1 w2 : World} (h : Lv B w w1) (k : Lv B' w1 w2) (hB : ∀ j, B' j → B j ∨ w.heap.size ≤ j) : Lv B w w2 :=
  ⟨k.os.trans h.os, k.tape.trans h.tape, k.output.trans h.output, Nat.le_trans h.size k.size, fun j j1 j2 => (k.block j (Nat.lt_of_lt_of_le j1 h.size) (fun q => (hB j q).elim j2 (fun q => by omega))).trans (h.block j j1 j2)⟩
theorem Lv.ag {B F : Nat → Prop} {w w' : World} (h : Lv B w w') (hB : ∀ j, B j → ¬ F j) : Ag F w w' := ⟨h.os, h.tape, h.output, h.size, fun j j1 j2 => h.block j j1 (fun q => hB j q j2)⟩
/-- Disk D, in blocks of B: these files, this room; n of them at most. -/
structure DBs (B : Nat → Prop) (D : Nat) (room : Int) (L : List FE) (n : Nat) (st : DSt) (w : World) : Prop where
  dsk : DskAt w D st
  room : st.room = room
  perm : (st.fs.map DF.fe).Perm L
  srt : Srt L
  own : ∀ j, DOwn st j → B j
  hD : B D
  lt : ∀ j, B j → j < w.heap.size
  few : L.length ≤ n
  nn : n ≤ 1000000
  len : ∀ f ∈ L, f.l.length ≤ 8388608 ∧ f.n ≤ f.l.length ∧ f.s.length ≤ 24
def DB (B : Nat → Prop) (D : Nat) (room : Int) (L : List FE) (n : Nat) (w : World) : Prop := ∃ st, DBs B D room L n st w
def DDid (B : Nat → Prop) (D : Nat) (room : Int) (L : List FE) (n : Nat) (w w' : World) : Prop := ∃ B' : Nat → Prop, (∀ j, B' j → B j ∨ w.heap.size ≤ j) ∧ DB B' D room L n w' ∧ Lv B w w'
section
variable {B : Nat → Prop} {D n : Nat} {room : Int} {L : List FE} {w w' : World}
theorem DB.keep (h : DB B D room L n w) (hk : ∀ j, B j → w'.heap[j]? = w.heap[j]?) (hs : w.heap.size ≤ w'.heap.size) : DB B D room L n w' := by
  obtain ⟨st, h⟩ := h
  exact ⟨st, h.dsk.keep (hk _ h.hD) (fun k q => hk k (h.own k q)) hs, h.room, h.perm, h.srt, h.own, h.hD, fun j q => Nat.lt_of_lt_of_le (h.lt j q) hs, h.few, h.nn, h.len⟩
theorem DB.below (h : DB B D room L n w) (hb : Below w.heap.size w w') : DB B D room L n w' := by
  obtain ⟨st, h'⟩ := h
  exact DB.keep ⟨st, h'⟩ (fun j q => hb.block j (h'.lt j q)) hb.size
theorem DB.lt (h : DB B D room L n w) {j : Nat} (hj : B j) : j < w.heap.size := h.elim fun _ h => h.lt j hj
theorem DDid.same (h : DB B D room L n w) (hb : Below w.heap.size w w') : DDid B D room L n w w' := ⟨B, fun _ q => .inl q, h.below hb, Below.lv hb⟩
theorem DB.mono (h : DB B D room L n w) {n' : Nat} (h1 : n ≤ n') (h2 : n' ≤ 1000000) : DB B D room L n' w := by
  obtain ⟨st, h⟩ := h
  exact ⟨st, h.dsk, h.room, h.perm, h.srt, h.own, h.hD, h.lt, Nat.le_trans h.few h1, h2, h.len⟩
theorem DBs.fd {st : DSt} (h : DBs B D room L n st w) (s : Nm) : fd L s = (fdD st s).map DF.fe := by
  rw [← fdD_fd, fd_perm h.dsk.dis h.perm]
theorem DBs.few' {st : DSt} (h : DBs B D room L n st w) : st.fs.length ≤ 1000000 := by
  have := h.perm.length_eq
  rw [List.length_map] at this
  have := h.few
  have := h.nn
  omega
theorem DBs.used {st : DSt} (h : DBs B D room L n st w) : usedD st.fs = usedF L := by rw [usedD_fe]; exact perm_used h.perm
theorem DB.used_le (h : DB B D room L n w) : usedF L ≤ 8388608000000 := by
  obtain ⟨st, h⟩ := h
  rw [← h.used]
  have h1 := usedD_le (fl := st.fs) (fun f hf => (h.dsk.file f hf).len)
  have h2 := h.few'
  omega
/-- A file was turned, its struct still where it was. -/
theorem DBs.setF {st : DSt} (h : DBs B D room L n st w) {j : Nat} {f f' : DF} (hj : st.fs[j]? = some f) (e1 : f'.s = f.s) (e2 : f'.g = f.g) (hf : FAt w' f')
    (hnew : ∀ b, f'.dv.ownBlock = some b → f.dv.ownBlock = some b ∨ w.heap.size ≤ b) (hk : ∀ k, k < w.heap.size → k ≠ f.g → f.dv.ownBlock ≠ some k → w'.heap[k]? = w.heap[k]?) (hs : w.heap.size ≤ w'.heap.size) (ho : w'.os = w.os ∧ w'.tape = w.tape ∧ w'.output = w.output) :
    DDid B D room (putF L f'.fe) n w w' := by
  have hmem := List.mem_of_getElem? hj
  have hm : (st.fs.map DF.fe)[j]? = some f.fe := by rw [List.getElem?_map, hj]; rfl
  have hd := h.dsk.setFile hj e1 e2 hf hnew hk hs
  have hp : ((st.fs.set j f').map DF.fe).Perm (putF L f'.fe) := by
    rw [show (st.fs.set j f').map DF.fe = (st.fs.map DF.fe).set j f'.fe by rw [List.map_set]]
    exact perm_set h.dsk.dis h.srt h.perm hm e1
  refine ⟨fun k => (B k ∨ w.heap.size ≤ k) ∧ k < w'.heap.size, fun k q => q.1, ⟨_, hd, h.room, hp, srt_putF h.srt _, fun k q => ⟨?_, hd.olt q⟩, ⟨.inl h.hD, Nat.lt_of_lt_of_le (h.lt _ h.hD) hs⟩, fun k q => q.2, ?_, h.nn, fun x hx => ?_⟩, ⟨ho.1, ho.2.1, ho.2.2, hs, fun k k1 k2 => hk k k1 (fun e => k2 (h.own k (.inr ⟨f, hmem, .inl e.symm⟩))) (fun e => k2 (h.own k (.inr ⟨f, hmem, .inr e⟩)))⟩⟩
  · rcases q with rfl | ⟨x, hx, q⟩
    · exact .inl (h.own _ (.inl rfl))
    · rcases List.mem_or_eq_of_mem_set hx with hx | rfl
      · exact .inl (h.own k (.inr ⟨x, hx, q⟩))
      · rcases q with q | q
        · exact .inl (h.own k (.inr ⟨f, hmem, .inl (by rw [← e2]; exact q)⟩))
        · rcases hnew k q with q | q
          · exact .inl (h.own k (.inr ⟨f, hmem, .inr q⟩))
          · exact .inr q
  · have := hp.length_eq
    rw [List.length_map, List.length_set] at this
    have h2 := h.perm.length_eq
    rw [List.length_map] at h2
    have := h.few
    omega
  · rcases mem_putF.1 hx with rfl | ⟨hx, _⟩
    · exact ⟨hf.len, hf.nl, hf.sl⟩
    · exact h.len x hx
/-- A file of a new name. -/
theorem DBs.pushF {st : DSt} (h : DBs B D room L n st w) {f' : DF} (hno : ∀ f ∈ st.fs, f.s ≠ f'.s) (hf : FAt w' f') (hg : w.heap.size ≤ f'.g)
    (hnew : ∀ b, f'.dv.ownBlock = some b → w.heap.size ≤ b) (hk : ∀ k, k < w.heap.size → k ≠ st.m → w'.heap[k]? = w.heap[k]?) (hs : w.heap.size ≤ w'.heap.size) (ho : w'.os = w.os ∧ w'.tape = w.tape ∧ w'.output = w.output)
    (hm : ∀ (es : List MapEntry) (ck : Nat), w.heap[st.m]? = some (.map es.toArray ck) → w'.heap[st.m]? = some (.map (es ++ [({ key := nmV f'.s, val := f'.val, born := ck } : MapEntry)]).toArray (ck + 1))) (hn : n + 1 ≤ 1000000) :
    DDid B D room (putF L f'.fe) (n + 1) w w' := by
  have hd := h.dsk.pushFile hno hf hg hnew hk hs hm
  have hp : ((st.fs ++ [f']).map DF.fe).Perm (putF L f'.fe) := by
    rw [List.map_append]
    exact perm_push h.dsk.dis h.srt h.perm (g := f'.fe) (fun x hx => by obtain ⟨f, hf, rfl⟩ := List.mem_map.1 hx; exact hno f hf)
  refine ⟨fun k => (B k ∨ w.heap.size ≤ k) ∧ k < w'.heap.size, fun k q => q.1, ⟨_, hd, h.room, hp, srt_putF h.srt _, fun k q => ⟨?_, hd.olt q⟩, ⟨.inl h.hD, Nat.lt_of_lt_of_le (h.lt _ h.hD) hs⟩, fun k q => q.2, ?_, hn, fun x hx => ?_⟩, ⟨ho.1, ho.2.1, ho.2.2, hs, fun k k1 k2 => hk k k1 (fun e => k2 (h.own k (.inl e)))⟩⟩
  · rcases q with rfl | ⟨x, hx, q⟩
    · exact .inl (h.own _ (.inl rfl))
    · rcases List.mem_append.1 hx with hx | hx
      · exact .inl (h.own k (.inr ⟨x, hx, q⟩))
      · simp at hx
        subst hx
        rcases q with q | q
        · exact .inr (by omega)
        · exact .inr (hnew k q)
  · have := hp.length_eq
    rw [List.length_map, List.length_append] at this
    have h2 := h.perm.length_eq
    rw [List.length_map] at h2
    have := h.few
    simp at *
    omega
  · rcases mem_putF.1 hx with rfl | ⟨hx, _⟩
    · exact ⟨hf.len, hf.nl, hf.sl⟩
    · exact h.len x hx
/-- A file was taken away. -/
theorem DBs.eraseF {st : DSt} (h : DBs B D room L n st w) {j : Nat} {f : DF} (hj : st.fs[j]? = some f) (hk : ∀ k, k < w.heap.size → k ≠ st.m → w'.heap[k]? = w.heap[k]?) (hs : w.heap.size ≤ w'.heap.size) (ho : w'.os = w.os ∧ w'.tape = w.tape ∧ w'.output = w.output)
    (hm : ∀ (es : List MapEntry) (ck : Nat), w.heap[st.m]? = some (.map es.toArray ck) → w'.heap[st.m]? = some (.map (es.eraseIdx j).toArray ck)) :
    DBs B D room (delF L f.s) n ⟨st.m, st.room, st.fs.eraseIdx j⟩ w' ∧ Lv B w w' := by
  have hd := h.dsk.eraseFile (j := j) hk hs hm
  have hmm : (st.fs.map DF.fe)[j]? = some f.fe := by rw [List.getElem?_map, hj]; rfl
  have hp : ((st.fs.eraseIdx j).map DF.fe).Perm (delF L f.s) := by
    have e1 : (st.fs.eraseIdx j).map DF.fe = (st.fs.map DF.fe).eraseIdx j := by
      refine List.ext_getElem? fun i => ?_
      rw [List.getElem?_map, List.getElem?_eraseIdx, List.getElem?_eraseIdx]
      split <;> rw [List.getElem?_map]
    rw [e1]
    exact perm_erase h.dsk.dis h.srt h.perm hmm
  refine ⟨⟨hd, h.room, hp, srt_delF h.srt _, fun k q => ?_, h.hD, fun k q => Nat.lt_of_lt_of_le (h.lt k q) hs, ?_, h.nn, fun x hx => h.len x (mem_delF.1 hx).1⟩, ⟨ho.1, ho.2.1, ho.2.2, hs, fun k k1 k2 => hk k k1 (fun e => k2 (h.own k (.inl e)))⟩⟩
  · rcases q with rfl | ⟨x, hx, q⟩
    · exact h.own _ (.inl rfl)
    · exact h.own k (.inr ⟨x, (List.eraseIdx_sublist _ _).subset hx, q⟩)
  · exact Nat.le_trans (List.length_filter_le _ _) h.few
end
end Go.Proofs.Ytcmbeolicopicaa
