/- disk: the names, rising. disk: a disk with these files. disk: New, List, Used. disk: Sync, Read, Cut. -/
import Derived.Test.YtcmbeolicopicaaGreatDRight
import Derived.Test.YtcmbeolicopicaaGreatDIter
import Derived.OwnWalkIn
import Derived.TacticsInMore
import Derived.OneCell
import Derived.WalkLawsBesides
import Derived.Carry
namespace Go.Proofs.YtcmbeolicopicaaGreat
open Go.RowKit Go.Maps Go.ChangeMaps Go.Sort Go.Shelf
set_option linter.unusedVariables false
set_option linter.unusedSimpArgs false
set_option maxRecDepth 100000

def noR : Value → Option (DataW Unit × List MemPlace) := fun _ => some (.nil, [])
theorem rg_nm {x : MapEntry} {s : Nm} (h : x.key = nmV s) (hs : s.length ≤ maxLen) : WideElems.rg Tryz.prog 9 noR x = (.string s, .nil) := by
  have hk : keyOf Tryz.prog 9 x.key = some (.string s) := by
    rw [h]
    unfold nmV
    simp only [keyOf, Tryz.underlying9, mapKey]
    rw [if_pos (show (ByteArray.mk s.toArray).size ≤ maxLen from hs)]
  simp [WideElems.rg, WideElems.rd, hk, noR]
theorem DskAt.maps {w : World} {D : Nat} {st : DSt} (h : DskAt w D st) (hn : st.fs.length ≤ 1000000) : ∃ D0, w.ownsMap Tryz.prog 9 noR st.m st.fs.length D0 ∧ Maps.size D0 ≤ 1000000 ∧ (strKeys D0).Perm (st.fs.map DF.s) := by
  obtain ⟨es, ck, h1, h2, h3⟩ := h.map
  have hlen : es.length = st.fs.length := by have := congrArg List.length h3; simpa using this
  have hkey : ∀ x ∈ es, ∃ f ∈ st.fs, x.key = nmV f.s ∧ f.s.length ≤ maxLen := by
    intro x hx
    obtain ⟨f, hf, e1, _⟩ := ent_of h3 hx
    exact ⟨f, hf, e1, by have := (h.file f hf).sl; unfold maxLen; omega⟩
  have hperm := WideShapes.sorted_perm ((es.toArray.toList.map (WideElems.rg Tryz.prog 9 noR)))
  refine ⟨_, ⟨es.toArray, ck, h1, ⟨by simp [hlen]; unfold maxLen; omega, ⟨by simpa using h2.born, by simpa using es_nd h2, ?_⟩, fun x hx => ?_⟩, by simp [hlen], rfl⟩, ?_, ?_⟩
  · have := h2.apart
    rw [List.Nodup, List.pairwise_map]
    simpa using this
  · obtain ⟨f, hf, e1, e2⟩ := hkey x (by simpa using hx)
    obtain ⟨l, hl⟩ := h2.keys x (by simpa using hx)
    exact ⟨_, by simp only [WideElems.rd, hl, Option.bind_some, noR, Option.map_some]; rfl⟩
  · have := hperm.length_eq
    show (List.foldr DataW.insert [] _).length ≤ _
    rw [this]
    simp
    omega
  · have h4 : (strKeys (DataW.map (List.foldr DataW.insert [] (es.toArray.toList.map (WideElems.rg Tryz.prog 9 noR))))).Perm ((es.map (WideElems.rg Tryz.prog 9 noR)).map fun p => strOf p.1) := hperm.map _
    refine h4.trans (List.Perm.of_eq ?_)
    rw [List.map_map]
    have h5 : st.fs.map DF.s = es.map fun x => strOf (WideElems.rg Tryz.prog 9 noR x).1 := by
      refine List.ext_getElem? fun i => ?_
      rw [List.getElem?_map, List.getElem?_map]
      cases hi : st.fs[i]? with
      | none =>
        have : es[i]? = none := by rw [List.getElem?_eq_none_iff] at hi ⊢; omega
        rw [this]; rfl
      | some f =>
        obtain ⟨e, he, e1, _⟩ := ent_at h3 hi
        have hsl := (h.file f (List.mem_of_getElem? hi)).sl
        rw [he]
        simp only [Option.map_some]
        rw [rg_nm e1 (by unfold maxLen; omega)]
        rfl
    rw [h5]
    rfl
/-- Names, sorted, are the canonical list's. -/
theorem sort_names {ss : List Nm} {L : List FE} (hL : Srt L) (h : ss.Perm (L.map FE.s)) : ss.mergeSort (fun x y => decide (x ≤ y)) = L.map FE.s := by
  have hs : (L.map FE.s).mergeSort leB = L.map FE.s := by
    refine List.mergeSort_of_pairwise ?_
    rw [List.pairwise_map]
    exact hL.imp fun h => by
      simp only [leB, decide_eq_true_eq]
      exact List.le_of_lt h
  rw [← hs]
  exact mergeSort_of_perm h
set_option maxHeartbeats 1000000 in
theorem list_any (D : Nat) (st : DSt) (L : List FE) (w : World) (h : DskAt w D st) (hn : st.fs.length ≤ 1000000) (hL : Srt L) (hp : (st.fs.map DF.fe).Perm L) :
    Calls Tryz.prog 54 #[.pointer (some ⟨D, 0, none⟩)] w fun e w' => ∃ v, e = .returned v ∧ w'.ownsRow w.heap.size 9 1 v L.length ((L.map FE.s).map encStr) ∧ Below w.heap.size w w' := by
  obtain ⟨D0, hown, hsz, hk⟩ := h.maps hn
  have c0 := h.dsk.cell 0
  simp only [List.getElem?_cons_zero] at c0
  refine (callsIn_wide (n := 6)).1 ?_
  have hfK : Fence.wide.fn 73 := trivial
  have hfS : Fence.wide.fn 72 := trivial
  refine callsIn_of_wp Tryz.func54 rfl trivial ?_ rfl
  simp only [Tryz.ntmps54, List.size_toArray, List.length_cons, List.length_nil, Nat.reduceAdd, Nat.reduceSub, Array.replicate_succ, Array.replicate_zero, List.push_toArray, List.append_toArray, List.nil_append, List.cons_append]
  gi_wp2_with (first
    | (gi_at_call 73; refine (Tryz.maps_Keys _ _).mono ?_; rintro e w' ⟨rfl, rfl⟩)
    | (gi_at_call 72; refine (Tryz.slices_Sorted_keys st.m st.fs.length D0 noR w hown (by unfold maxLen; omega) (by omega)).mono ?_; rintro e w' ⟨v, ss, rfl, hS, hrow, hnil, hb⟩))
  go_ret
  have hs := sort_names hL ((hS.trans hk).trans (by have := hp.map FE.s; rwa [List.map_map] at this))
  rw [hs, show ss.length = L.length by have := congrArg List.length hs; simpa using this] at hrow
  exact ⟨v, rfl, ownsRow_base_a hrow (by simp), ((Below.refl _ w).alloc (Nat.le_refl _) _).trans (hb.mono (by simp))⟩
end Go.Proofs.YtcmbeolicopicaaGreat
namespace Go.Proofs.YtcmbeolicopicaaGreat
open Go.RowKit Go.Maps Go.ChangeMaps
set_option linter.unusedVariables false
set_option linter.unusedSimpArgs false
set_option maxRecDepth 100000

/-- All blocks but those of B are as they were. -/
structure Lv (B : Nat → Prop) (w w' : World) : Prop where
  os : w'.os = w.os
  tape : w'.tape = w.tape
  output : w'.output = w.output
  size : w.heap.size ≤ w'.heap.size
  block : ∀ k, k < w.heap.size → ¬ B k → w'.heap[k]? = w.heap[k]?
theorem Below.lv {B : Nat → Prop} {w w' : World} (h : Below w.heap.size w w') : Lv B w w' := ⟨h.os, h.tape, h.output, h.size, fun k k1 _ => h.block k k1⟩
theorem Lv.below {B : Nat → Prop} {w w' : World} {n : Nat} (h : Lv B w w') (hB : ∀ j, B j → n ≤ j) (hn : n ≤ w.heap.size) : Below n w w' :=
  ⟨h.os, h.tape, h.output, h.size, fun k k1 => h.block k (Nat.lt_of_lt_of_le k1 hn) (fun e => by have := hB k e; omega)⟩
theorem Lv.trans {B B' : Nat → Prop} {w w1 w2 : World} (h : Lv B w w1) (k : Lv B' w1 w2) (hB : ∀ j, B' j → B j ∨ w.heap.size ≤ j) : Lv B w w2 :=
  ⟨k.os.trans h.os, k.tape.trans h.tape, k.output.trans h.output, Nat.le_trans h.size k.size, fun j j1 j2 => (k.block j (Nat.lt_of_lt_of_le j1 h.size) (fun q => (hB j q).elim j2 (fun q => by omega))).trans (h.block j j1 j2)⟩
theorem Lv.ag {B F : Nat → Prop} {w w' : World} (h : Lv B w w') (hB : ∀ j, B j → ¬ F j) : Ag F w w' := ⟨h.os, h.tape, h.output, h.size, fun j j1 j2 => h.block j j1 (fun q => hB j q j2)⟩
/-- Disk D, in blocks of B: these files, this room; n of them at most. -/
structure DBs (B : Nat → Prop) (D : Nat) (room : Int) (L : List FE) (n : Nat) (st : DSt) (w : World) : Prop where
  dsk : DskAt w D st
  room : st.room = room
  perm : (st.fs.map DF.fe).Perm L
  srt : Srt L
  own : ∀ j, DOwn st j → B j
  hD : B D
  lt : ∀ j, B j → j < w.heap.size
  few : L.length ≤ n
  nn : n ≤ 1000000
  len : ∀ f ∈ L, f.l.length ≤ 8388608 ∧ f.n ≤ f.l.length ∧ f.s.length ≤ 24
def DB (B : Nat → Prop) (D : Nat) (room : Int) (L : List FE) (n : Nat) (w : World) : Prop := ∃ st, DBs B D room L n st w
def DDid (B : Nat → Prop) (D : Nat) (room : Int) (L : List FE) (n : Nat) (w w' : World) : Prop := ∃ B' : Nat → Prop, (∀ j, B' j → B j ∨ w.heap.size ≤ j) ∧ DB B' D room L n w' ∧ Lv B w w'
section
variable {B : Nat → Prop} {D n : Nat} {room : Int} {L : List FE} {w w' : World}
theorem DB.keep (h : DB B D room L n w) (hk : ∀ j, B j → w'.heap[j]? = w.heap[j]?) (hs : w.heap.size ≤ w'.heap.size) : DB B D room L n w' := by
  obtain ⟨st, h⟩ := h
  exact ⟨st, h.dsk.keep (hk _ h.hD) (fun k q => hk k (h.own k q)) hs, h.room, h.perm, h.srt, h.own, h.hD, fun j q => Nat.lt_of_lt_of_le (h.lt j q) hs, h.few, h.nn, h.len⟩
theorem DB.below (h : DB B D room L n w) (hb : Below w.heap.size w w') : DB B D room L n w' := by
  obtain ⟨st, h'⟩ := h
  exact DB.keep ⟨st, h'⟩ (fun j q => hb.block j (h'.lt j q)) hb.size
theorem DB.lt (h : DB B D room L n w) {j : Nat} (hj : B j) : j < w.heap.size := h.elim fun _ h => h.lt j hj
theorem DDid.same (h : DB B D room L n w) (hb : Below w.heap.size w w') : DDid B D room L n w w' := ⟨B, fun _ q => .inl q, h.below hb, Below.lv hb⟩
theorem DB.mono (h : DB B D room L n w) {n' : Nat} (h1 : n ≤ n') (h2 : n' ≤ 1000000) : DB B D room L n' w := by
  obtain ⟨st, h⟩ := h
  exact ⟨st, h.dsk, h.room, h.perm, h.srt, h.own, h.hD, h.lt, Nat.le_trans h.few h1, h2, h.len⟩
theorem DBs.fd {st : DSt} (h : DBs B D room L n st w) (s : Nm) : fd L s = (fdD st s).map DF.fe := by
  rw [← fdD_fd, fd_perm h.dsk.dis h.perm]
theorem DBs.few' {st : DSt} (h : DBs B D room L n st w) : st.fs.length ≤ 1000000 := by
  have := h.perm.length_eq
  rw [List.length_map] at this
  have := h.few
  have := h.nn
  omega
theorem DBs.used {st : DSt} (h : DBs B D room L n st w) : usedD st.fs = usedF L := by rw [usedD_fe]; exact perm_used h.perm
theorem DB.used_le (h : DB B D room L n w) : usedF L ≤ 8388608000000 := by
  obtain ⟨st, h⟩ := h
  rw [← h.used]
  have h1 := usedD_le (fl := st.fs) (fun f hf => (h.dsk.file f hf).len)
  have h2 := h.few'
  omega
/-- A file was turned, its struct still where it was. -/
theorem DBs.setF {st : DSt} (h : DBs B D room L n st w) {j : Nat} {f f' : DF} (hj : st.fs[j]? = some f) (e1 : f'.s = f.s) (e2 : f'.g = f.g) (hf : FAt w' f')
    (hnew : ∀ b, f'.dv.ownBlock = some b → f.dv.ownBlock = some b ∨ w.heap.size ≤ b) (hk : ∀ k, k < w.heap.size → k ≠ f.g → f.dv.ownBlock ≠ some k → w'.heap[k]? = w.heap[k]?) (hs : w.heap.size ≤ w'.heap.size) (ho : w'.os = w.os ∧ w'.tape = w.tape ∧ w'.output = w.output) :
    DDid B D room (putF L f'.fe) n w w' := by
  have hmem := List.mem_of_getElem? hj
  have hm : (st.fs.map DF.fe)[j]? = some f.fe := by rw [List.getElem?_map, hj]; rfl
  have hd := h.dsk.setFile hj e1 e2 hf hnew hk hs
  have hp : ((st.fs.set j f').map DF.fe).Perm (putF L f'.fe) := by
    rw [show (st.fs.set j f').map DF.fe = (st.fs.map DF.fe).set j f'.fe by rw [List.map_set]]
    exact perm_set h.dsk.dis h.srt h.perm hm e1
  refine ⟨fun k => (B k ∨ w.heap.size ≤ k) ∧ k < w'.heap.size, fun k q => q.1, ⟨_, hd, h.room, hp, srt_putF h.srt _, fun k q => ⟨?_, hd.olt q⟩, ⟨.inl h.hD, Nat.lt_of_lt_of_le (h.lt _ h.hD) hs⟩, fun k q => q.2, ?_, h.nn, fun x hx => ?_⟩, ⟨ho.1, ho.2.1, ho.2.2, hs, fun k k1 k2 => hk k k1 (fun e => k2 (h.own k (.inr ⟨f, hmem, .inl e.symm⟩))) (fun e => k2 (h.own k (.inr ⟨f, hmem, .inr e⟩)))⟩⟩
  · rcases q with rfl | ⟨x, hx, q⟩
    · exact .inl (h.own _ (.inl rfl))
    · rcases List.mem_or_eq_of_mem_set hx with hx | rfl
      · exact .inl (h.own k (.inr ⟨x, hx, q⟩))
      · rcases q with q | q
        · exact .inl (h.own k (.inr ⟨f, hmem, .inl (by rw [← e2]; exact q)⟩))
        · rcases hnew k q with q | q
          · exact .inl (h.own k (.inr ⟨f, hmem, .inr q⟩))
          · exact .inr q
  · have := hp.length_eq
    rw [List.length_map, List.length_set] at this
    have h2 := h.perm.length_eq
    rw [List.length_map] at h2
    have := h.few
    omega
  · rcases mem_putF.1 hx with rfl | ⟨hx, _⟩
    · exact ⟨hf.len, hf.nl, hf.sl⟩
    · exact h.len x hx
/-- A file of a new name. -/
theorem DBs.pushF {st : DSt} (h : DBs B D room L n st w) {f' : DF} (hno : ∀ f ∈ st.fs, f.s ≠ f'.s) (hf : FAt w' f') (hg : w.heap.size ≤ f'.g)
    (hnew : ∀ b, f'.dv.ownBlock = some b → w.heap.size ≤ b) (hk : ∀ k, k < w.heap.size → k ≠ st.m → w'.heap[k]? = w.heap[k]?) (hs : w.heap.size ≤ w'.heap.size) (ho : w'.os = w.os ∧ w'.tape = w.tape ∧ w'.output = w.output)
    (hm : ∀ (es : List MapEntry) (ck : Nat), w.heap[st.m]? = some (.map es.toArray ck) → w'.heap[st.m]? = some (.map (es ++ [({ key := nmV f'.s, val := f'.val, born := ck } : MapEntry)]).toArray (ck + 1))) (hn : n + 1 ≤ 1000000) :
    DDid B D room (putF L f'.fe) (n + 1) w w' := by
  have hd := h.dsk.pushFile hno hf hg hnew hk hs hm
  have hp : ((st.fs ++ [f']).map DF.fe).Perm (putF L f'.fe) := by
    rw [List.map_append]
    exact perm_push h.dsk.dis h.srt h.perm (g := f'.fe) (fun x hx => by obtain ⟨f, hf, rfl⟩ := List.mem_map.1 hx; exact hno f hf)
  refine ⟨fun k => (B k ∨ w.heap.size ≤ k) ∧ k < w'.heap.size, fun k q => q.1, ⟨_, hd, h.room, hp, srt_putF h.srt _, fun k q => ⟨?_, hd.olt q⟩, ⟨.inl h.hD, Nat.lt_of_lt_of_le (h.lt _ h.hD) hs⟩, fun k q => q.2, ?_, hn, fun x hx => ?_⟩, ⟨ho.1, ho.2.1, ho.2.2, hs, fun k k1 k2 => hk k k1 (fun e => k2 (h.own k (.inl e)))⟩⟩
  · rcases q with rfl | ⟨x, hx, q⟩
    · exact .inl (h.own _ (.inl rfl))
    · rcases List.mem_append.1 hx with hx | hx
      · exact .inl (h.own k (.inr ⟨x, hx, q⟩))
      · simp at hx
        subst hx
        rcases q with q | q
        · exact .inr (by omega)
        · exact .inr (hnew k q)
  · have := hp.length_eq
    rw [List.length_map, List.length_append] at this
    have h2 := h.perm.length_eq
    rw [List.length_map] at h2
    have := h.few
    simp at *
    omega
  · rcases mem_putF.1 hx with rfl | ⟨hx, _⟩
    · exact ⟨hf.len, hf.nl, hf.sl⟩
    · exact h.len x hx
/-- A file was taken away. -/
theorem DBs.eraseF {st : DSt} (h : DBs B D room L n st w) {j : Nat} {f : DF} (hj : st.fs[j]? = some f) (hk : ∀ k, k < w.heap.size → k ≠ st.m → w'.heap[k]? = w.heap[k]?) (hs : w.heap.size ≤ w'.heap.size) (ho : w'.os = w.os ∧ w'.tape = w.tape ∧ w'.output = w.output)
    (hm : ∀ (es : List MapEntry) (ck : Nat), w.heap[st.m]? = some (.map es.toArray ck) → w'.heap[st.m]? = some (.map (es.eraseIdx j).toArray ck)) :
    DBs B D room (delF L f.s) n ⟨st.m, st.room, st.fs.eraseIdx j⟩ w' ∧ Lv B w w' := by
  have hd := h.dsk.eraseFile (j := j) hk hs hm
  have hmm : (st.fs.map DF.fe)[j]? = some f.fe := by rw [List.getElem?_map, hj]; rfl
  have hp : ((st.fs.eraseIdx j).map DF.fe).Perm (delF L f.s) := by
    have e1 : (st.fs.eraseIdx j).map DF.fe = (st.fs.map DF.fe).eraseIdx j := by
      refine List.ext_getElem? fun i => ?_
      rw [List.getElem?_map, List.getElem?_eraseIdx, List.getElem?_eraseIdx]
      split <;> rw [List.getElem?_map]
    rw [e1]
    exact perm_erase h.dsk.dis h.srt h.perm hmm
  refine ⟨⟨hd, h.room, hp, srt_delF h.srt _, fun k q => ?_, h.hD, fun k q => Nat.lt_of_lt_of_le (h.lt k q) hs, ?_, h.nn, fun x hx => h.len x (mem_delF.1 hx).1⟩, ⟨ho.1, ho.2.1, ho.2.2, hs, fun k k1 k2 => hk k k1 (fun e => k2 (h.own k (.inl e)))⟩⟩
  · rcases q with rfl | ⟨x, hx, q⟩
    · exact h.own _ (.inl rfl)
    · exact h.own k (.inr ⟨x, (List.eraseIdx_sublist _ _).subset hx, q⟩)
  · exact Nat.le_trans (List.length_filter_le _ _) h.few
end
end Go.Proofs.YtcmbeolicopicaaGreat
namespace Go.Proofs.YtcmbeolicopicaaGreat
open Go.RowKit Go.Maps Go.ChangeMaps
set_option linter.unusedVariables false
set_option linter.unusedSimpArgs false
set_option maxRecDepth 100000

theorem db_new (room : Int) (w : World) : (∃ B, (∀ j, B j → w.heap.size ≤ j) ∧ DB B (w.heap.size + 1) room [] 0 ((w.alloc (.map #[] 0)).alloc (.cells #[.map (some w.heap.size), .int .i64 room] 50))) ∧ Below w.heap.size w ((w.alloc (.map #[] 0)).alloc (.cells #[.map (some w.heap.size), .int .i64 room] 50)) := by
  have hm : ((w.alloc (.map #[] 0)).alloc (.cells #[.map (some w.heap.size), .int .i64 room] 50)).heap[w.heap.size]? = some (.map #[] 0) := (heap_alloc_old _ _ (by simp)).trans (heap_alloc_new w _)
  have hd := Bk.new (w.alloc (.map #[] 0)) 50 [.map (some w.heap.size), .int .i64 room]
  rw [World.size_alloc] at hd
  refine ⟨⟨fun j => j = w.heap.size ∨ j = w.heap.size + 1, fun j q => by omega, ⟨w.heap.size, room, []⟩, ⟨hd, ⟨[], 0, hm, EsOk.nil _ _, rfl⟩, fun f hf => (by cases hf), List.Pairwise.nil⟩, rfl, List.Perm.refl _, List.Pairwise.nil, fun j q => ?_, .inr rfl, fun j q => by simp; omega, Nat.le_refl _, by decide, fun f hf => (by cases hf)⟩, ((Below.refl _ _).alloc (Nat.le_refl _) _).alloc (by simp) _⟩
  rcases q with rfl | ⟨f, hf, _⟩
  · exact .inl rfl
  · cases hf
theorem op_new (room : Int) (w : World) : Calls Tryz.prog 5 #[.int .i64 room] w fun e w' => ∃ D, e = .returned (.pointer (some ⟨D, 0, none⟩)) ∧ (∃ B, (∀ j, B j → w.heap.size ≤ j) ∧ DB B D (max room 0) [] 0 w') ∧ Below w.heap.size w w' := by
  have hmm := @run_makeMap Tryz.prog
  by_cases h : room ≤ 0
  · have e1 : max room 0 = 0 := by omega
    have hd := db_new 0 w
    rw [e1]
    go_enter Tryz.func5, Tryz.ntmps5
    go_wp2_with fail
    go_ret
    exact ⟨_, rfl, hd⟩
  · have e1 : max room 0 = room := by omega
    have hd := db_new room w
    rw [e1]
    go_enter Tryz.func5, Tryz.ntmps5
    go_wp2_with fail
    go_ret
    exact ⟨_, rfl, hd⟩
section
variable {B : Nat → Prop} {D n : Nat} {room : Int} {L : List FE} {w : World} (h : DB B D room L n w)
include h
theorem op_used : Calls Tryz.prog 17 #[.pointer (some ⟨D, 0, none⟩)] w fun e w' => e = .returned (.int .i64 (usedF L)) ∧ Below w.heap.size w w' := by
  obtain ⟨st, h⟩ := h
  have hu := used_any D st w h.dsk h.few'
  rw [h.used] at hu
  have hk := known_any D st.m _ w h.dsk.dsk
  go_enter Tryz.func17, Tryz.ntmps17
  go_wp2_with fail
  (with_reducible refine hk.mono ?_)
  rintro _ _ ⟨rfl, rfl⟩
  go_wp2_with fail
  (with_reducible refine hu.mono ?_)
  rintro _ w1 ⟨rfl, hb⟩
  go_wp2_with fail
  go_ret
  exact ⟨rfl, hb⟩
theorem op_list : Calls Tryz.prog 20 #[.pointer (some ⟨D, 0, none⟩)] w fun e w' => ∃ v, e = .returned v ∧ w'.ownsRow w.heap.size 9 1 v L.length (L.map fun f => nmV f.s) ∧ Below w.heap.size w w' := by
  obtain ⟨st, h⟩ := h
  have hl := list_any D st L w h.dsk h.few' h.srt h.perm
  rw [List.map_map] at hl
  have hk := known_any D st.m _ w h.dsk.dsk
  go_enter Tryz.func20, Tryz.ntmps20
  go_wp2_with fail
  (with_reducible refine hk.mono ?_)
  rintro _ _ ⟨rfl, rfl⟩
  go_wp2_with fail
  (with_reducible refine hl.mono ?_)
  rintro _ w1 ⟨v, rfl, hr, hb⟩
  go_wp2_with fail
  go_ret
  exact ⟨v, rfl, hr, hb⟩
end
end Go.Proofs.YtcmbeolicopicaaGreat
namespace Go.Proofs.YtcmbeolicopicaaGreat
open Go.RowKit Go.Maps Go.ChangeMaps
set_option linter.unusedVariables false
set_option linter.unusedSimpArgs false
set_option maxRecDepth 100000

theorem DBs.look {B : Nat → Prop} {D n : Nat} {room : Int} {L : List FE} {st : DSt} {w : World} (h : DBs B D room L n st w) (s : Nm) (hs : s.length ≤ 1000000) (W : World) (hW : W.heap = w.heap) :
    (Instr.lookup 46 (.map (some st.m)) (nmV s) false).run Tryz.prog W = .ok (lookV (fdD st s)) W := h.dsk.look s (by unfold maxLen; omega) W hW
theorem fdD_none_of {B : Nat → Prop} {D n : Nat} {room : Int} {L : List FE} {st : DSt} {w : World} (h : DBs B D room L n st w) {s : Nm} (e : fd L s = none) : fdD st s = none := by
  rw [h.fd, Option.map_eq_none_iff] at e; exact e
theorem fdD_some_of {B : Nat → Prop} {D n : Nat} {room : Int} {L : List FE} {st : DSt} {w : World} (h : DBs B D room L n st w) {s : Nm} {g : FE} (e : fd L s = some g) : ∃ (f : DF) (j : Nat), fdD st s = some f ∧ f.fe = g ∧ f.s = s ∧ st.fs[j]? = some f := by
  rw [h.fd] at e
  obtain ⟨f, h1, h2⟩ := Option.map_eq_some_iff.1 e
  obtain ⟨hm, hs⟩ := fdD_some h1
  obtain ⟨j, hj⟩ := List.mem_iff_getElem?.1 hm
  exact ⟨f, j, h1, h2, hs, hj⟩
section
variable {B : Nat → Prop} {D n : Nat} {room : Int} {L : List FE} {st : DSt} {w : World} (h : DBs B D room L n st w) (s : Nm) (hs : s.length ≤ 1000000)
include h hs
theorem with_none (e : fd L s = none) (fv : Value) : Calls Tryz.prog 21 #[.pointer (some ⟨D, 0, none⟩), nmV s, fv] w fun e w' => e = .returned (.int .i64 6) ∧ w = w' := by
  have hl := h.look s hs w rfl
  rw [fdD_none_of h e] at hl
  unfold lookV at hl
  have hk := known_any D st.m _ w h.dsk.dsk
  have c0 := h.dsk.dsk.cell 0
  simp only [List.getElem?_cons_zero] at c0
  unfold nmV at *
  go_enter Tryz.func21, Tryz.ntmps21
  go_wp2_with fail
  (with_reducible refine hk.mono ?_)
  rintro _ _ ⟨rfl, rfl⟩
  clear hk
  go_wp2_with fail
  go_ret
  exact ⟨rfl, rfl⟩
/-- What Sync makes of the files. -/
theorem sync_in {f : DF} {j : Nat} (e : fdD st s = some f) (hj : st.fs[j]? = some f) : Calls Tryz.prog 18 #[.pointer (some ⟨D, 0, none⟩), nmV s] w fun e w' => e = .returned (.int .i64 0) ∧ DDid B D room (putF L ⟨f.s, f.l, f.l.length⟩) n w w' := by
  have hl := h.look s hs w rfl
  rw [e] at hl
  unfold lookV at hl
  have hk := known_any D st.m _ w h.dsk.dsk
  have c0 := h.dsk.dsk.cell 0
  have hF := h.dsk.file f (List.mem_of_getElem? hj)
  have q0 := hF.bk.cell 0
  have q1 := hF.bk.cell 1
  have z1 := hF.bk.frozen 1
  simp only [List.getElem?_cons_zero, List.getElem?_cons_succ, DF.dv] at c0 q0 q1
  have hfar : ∀ k, k ≠ f.g → (w.setCell ⟨f.g, 1, none⟩ (.int .i64 f.l.length)).heap[k]? = w.heap[k]? := fun k hk => Below.heap_setCell _ _ _ k hk
  have hsz : (w.setCell ⟨f.g, 1, none⟩ (.int .i64 f.l.length)).heap.size = w.heap.size := by simp [World.setCell]
  have hg : f.dv.ownBlock ≠ some f.g := h.dsk.gd (List.mem_of_getElem? hj) (List.mem_of_getElem? hj)
  have hfin := h.setF (w' := w.setCell ⟨f.g, 1, none⟩ (.int .i64 f.l.length)) (f' := ⟨f.s, f.g, f.A, f.c, f.l, f.l.length⟩) hj rfl rfl
    ⟨hF.bk.set 1 _, by
      obtain ⟨b, k1, k2⟩ := hF.dat
      exact ⟨b, k1.keep (fun e => hfar b (fun q => hg (q ▸ e))), fun e => ⟨trivial, by rw [hsz]; exact (k2 e).2⟩⟩, hF.len, Nat.le_refl _, hF.sl⟩
    (fun b e => .inl e) (fun k _ k2 _ => hfar k k2) (by rw [hsz]; exact Nat.le_refl _) ⟨rfl, rfl, rfl⟩
  have hfl := hF.len
  have hcl : Calls Tryz.prog 53 #[f.val] w fun e w' => e = .returned (.int .i64 0) ∧ w' = w.setCell ⟨f.g, 1, none⟩ (.int .i64 f.l.length) := by
    clear hfin hfar hsz hl hk
    unfold DF.val
    go_enter Tryz.func53, Tryz.ntmps53
    go_wp2_with fail
    go_ret
    exact ⟨rfl, rfl⟩
  have hw : Calls Tryz.prog 21 #[.pointer (some ⟨D, 0, none⟩), nmV s, .func (.func 53) #[] #[]] w fun e w' => e = .returned (.int .i64 0) ∧ w' = w.setCell ⟨f.g, 1, none⟩ (.int .i64 f.l.length) := by
    clear hfin hfar hsz
    unfold DF.val at hl hcl
    unfold nmV at *
    go_enter Tryz.func21, Tryz.ntmps21
    go_wp2_with fail
    (with_reducible refine hk.mono ?_)
    rintro _ _ ⟨rfl, rfl⟩
    clear hk
    go_wp2_with fail
    (with_reducible refine hcl.mono ?_)
    rintro _ _ ⟨rfl, rfl⟩
    clear hcl hl
    go_wp2_with fail
    go_ret
    exact ⟨rfl, rfl⟩
  clear hcl hl hk
  unfold nmV at *
  go_enter Tryz.func18, Tryz.ntmps18
  go_wp2_with fail
  (with_reducible refine hw.mono ?_)
  rintro _ _ ⟨rfl, rfl⟩
  go_wp2_with fail
  go_ret
  exact ⟨rfl, hfin⟩
theorem sync_out (e : fd L s = none) : Calls Tryz.prog 18 #[.pointer (some ⟨D, 0, none⟩), nmV s] w fun e w' => e = .returned (.int .i64 6) ∧ w = w' := by
  have hw := with_none h s hs e (.func (.func 53) #[] #[])
  unfold nmV at *
  go_enter Tryz.func18, Tryz.ntmps18
  go_wp2_with fail
  (with_reducible refine hw.mono ?_)
  rintro _ _ ⟨rfl, rfl⟩
  go_wp2_with fail
  go_ret
  exact ⟨rfl, rfl⟩
end
section
variable {D : Nat} {st : DSt} {W : World} (h : DskAt W D st) (s : Nm) (hs : s.length ≤ 1000000)
include h hs
/-- with, at a file, of a function that ends so. -/
theorem read_with {f : DF} {j X : Nat} {v0 : Value} (e : fdD st s = some f) (hj : st.fs[j]? = some f) (hX : Bk W X 29 [v0]) : Calls Tryz.prog 21 #[.pointer (some ⟨D, 0, none⟩), nmV s, .func (.func 22) #[] #[.pointer (some ⟨X, 0, none⟩)]] W fun e w' => e = .returned (.int .i64 0) ∧ ∃ A c w2, w' = w2.setCell ⟨X, 0, none⟩ (.slice A f.l.length c) ∧ Dat w2 (fun b => W.heap.size ≤ b) A c f.l ∧ Below W.heap.size W w2 := by
  have hl := h.look s (by unfold maxLen; omega) W rfl
  rw [e] at hl
  unfold lookV at hl
  have hk := known_any D st.m _ W h.dsk
  have c0 := h.dsk.cell 0
  have hF := h.file f (List.mem_of_getElem? hj)
  have q0 := hF.bk.cell 0
  simp only [List.getElem?_cons_zero, List.getElem?_cons_succ, DF.dv] at c0 q0
  have hfl := hF.len
  obtain ⟨hrd, hlc, hcm⟩ := hF.dat.rd
  have hcn := clone_any _ f.A f.c f.l W hrd (by omega)
  have hcl : Calls Tryz.prog 22 #[f.val, .pointer (some ⟨X, 0, none⟩)] W fun e w' => e = .returned (.int .i64 0) ∧ ∃ A c w2, w' = w2.setCell ⟨X, 0, none⟩ (.slice A f.l.length c) ∧ Dat w2 (fun b => W.heap.size ≤ b) A c f.l ∧ Below W.heap.size W w2 := by
    clear hl hk
    unfold DF.val
    go_enter Tryz.func22, Tryz.ntmps22
    go_wp2_with fail
    (with_reducible refine hcn.mono ?_)
    rintro _ w2 ⟨A, c, rfl, hd, hb⟩
    have hX2 := hX.below hb hX.lt
    have x0 := hX2.cell 0
    have z0 := hX2.frozen 0
    simp only [List.getElem?_cons_zero] at x0
    clear hcn
    go_wp2_with fail
    go_ret
    exact ⟨rfl, A, c, w2, rfl, hd, hb⟩
  clear hcn hrd
  unfold DF.val at hl hcl
  unfold nmV at *
  go_enter Tryz.func21, Tryz.ntmps21
  go_wp2_with fail
  (with_reducible refine hk.mono ?_)
  rintro _ _ ⟨rfl, rfl⟩
  clear hk
  go_wp2_with fail
  (with_reducible refine hcl.mono ?_)
  rintro _ _ ⟨rfl, A, c, w2, rfl, hd, hb⟩
  clear hcl hl
  go_wp2_with fail
  go_ret
  exact ⟨rfl, A, c, w2, rfl, hd, hb⟩
end
section
variable {B : Nat → Prop} {D n : Nat} {room : Int} {L : List FE} {st : DSt} {w : World} (h : DBs B D room L n st w) (s : Nm) (hs : s.length ≤ 1000000)
include h hs
theorem read_in {f : DF} {j : Nat} (e : fdD st s = some f) (hj : st.fs[j]? = some f) : Calls Tryz.prog 8 #[.pointer (some ⟨D, 0, none⟩), nmV s] w fun e w' => ∃ A c, e = .returned (.tuple #[.slice A f.l.length c, .int .i64 0]) ∧ Dat w' (fun b => w.heap.size ≤ b) A c f.l ∧ Below w.heap.size w w' := by
  have hb1 : Below w.heap.size w (w.alloc (.cells #[.slice none 0 0] 29)) := (Below.refl _ _).alloc (Nat.le_refl _) _
  have hX : Bk (w.alloc (.cells #[.slice none 0 0] 29)) w.heap.size 29 [.slice none 0 0] := Bk.new w 29 [.slice none 0 0]
  have hw := read_with (h.dsk.below hb1) s hs e hj hX
  unfold nmV at *
  go_enter Tryz.func8, Tryz.ntmps8
  go_wp2_with fail
  generalize (w.alloc (.cells #[.slice none 0 0] 29)) = w1 at *
  (with_reducible refine hw.mono ?_)
  rintro _ _ ⟨rfl, A, c, w2, rfl, hd, hb⟩
  clear hw
  have hX2 := hX.below hb hX.lt
  have hX3 := hX2.set 0 (.slice A f.l.length c)
  have x0 := hX3.cell 0
  have z0 := hX3.frozen 0
  have hs1 : w.heap.size < w1.heap.size := hX.lt
  have hd3 : Dat (w2.setCell ⟨w.heap.size, 0, none⟩ (.slice A f.l.length c)) (fun b => w.heap.size < b) A c f.l := hd.keep (fun b q _ => Below.heap_setCell _ _ _ b (fun e => by have e : b = w.heap.size := e; omega)) (by simp [World.setCell]) (fun b q _ => by omega)
  have hb3 : Below w.heap.size w (w2.setCell ⟨w.heap.size, 0, none⟩ (.slice A f.l.length c)) := (hb1.trans (hb.mono (by omega))).setCell (p := ⟨w.heap.size, 0, none⟩) (Nat.le_refl _) _
  simp only [List.getElem?_cons_zero, List.set_cons_zero] at x0
  generalize w2.setCell ⟨w.heap.size, 0, none⟩ (.slice A f.l.length c) = w3 at *
  have hX4 := hX3.set 0 (.slice A f.l.length c)
  have y0 := hX4.cell 0
  simp only [List.getElem?_cons_zero, List.set_cons_zero] at y0
  have hd4 : Dat (w3.setCell ⟨w.heap.size, 0, none⟩ (.slice A f.l.length c)) (fun b => w.heap.size ≤ b) A c f.l := hd3.keep (fun b q _ => Below.heap_setCell _ _ _ b (fun e => by have e : b = w.heap.size := e; omega)) (by simp [World.setCell]) (fun b q _ => by omega)
  have hb4 := hb3.setCell (p := ⟨w.heap.size, 0, none⟩) (Nat.le_refl _) (.slice A f.l.length c)
  go_wp2_with fail
  exact bodyPost_ret (v := .tuple #[.slice A f.l.length c, .int .i64 0]) (by simp [results, Tryz.results8, go_sem, y0]) rfl ⟨A, c, rfl, hd4, hb4⟩
theorem read_out (e : fd L s = none) : Calls Tryz.prog 8 #[.pointer (some ⟨D, 0, none⟩), nmV s] w fun e w' => e = .returned (.tuple #[.slice none 0 0, .int .i64 6]) ∧ Below w.heap.size w w' := by
  have hb1 : Below w.heap.size w (w.alloc (.cells #[.slice none 0 0] 29)) := (Below.refl _ _).alloc (Nat.le_refl _) _
  have hX : Bk (w.alloc (.cells #[.slice none 0 0] 29)) w.heap.size 29 [.slice none 0 0] := Bk.new w 29 [.slice none 0 0]
  have h1 : DBs (fun j => B j ∧ j < w.heap.size) D room L n st w := ⟨h.dsk, h.room, h.perm, h.srt, fun j q => ⟨h.own j q, h.lt j (h.own j q)⟩, ⟨h.hD, h.lt _ h.hD⟩, fun j q => q.2, h.few, h.nn, h.len⟩
  have h2 : DBs (fun j => B j ∧ j < w.heap.size) D room L n st (w.alloc (.cells #[.slice none 0 0] 29)) := ⟨h.dsk.below hb1, h.room, h.perm, h.srt, h1.own, h1.hD, fun j q => Nat.lt_of_lt_of_le q.2 hb1.size, h.few, h.nn, h.len⟩
  have hw := with_none h2 s hs e (.func (.func 22) #[] #[.pointer (some ⟨w.heap.size, 0, none⟩)])
  unfold nmV at *
  go_enter Tryz.func8, Tryz.ntmps8
  go_wp2_with fail
  generalize (w.alloc (.cells #[.slice none 0 0] 29)) = w1 at *
  (with_reducible refine hw.mono ?_)
  rintro _ _ ⟨rfl, rfl⟩
  clear hw
  have x0 := hX.cell 0
  have z0 := hX.frozen 0
  simp only [List.getElem?_cons_zero] at x0
  have y0 := (hX.set 0 (.slice none 0 0)).cell 0
  simp only [List.getElem?_cons_zero, List.set_cons_zero] at y0
  have hb4 := hb1.setCell (p := ⟨w.heap.size, 0, none⟩) (Nat.le_refl _) (.slice none 0 0)
  go_wp2_with fail
  exact bodyPost_ret (v := .tuple #[.slice none 0 0, .int .i64 6]) (by simp [results, Tryz.results8, go_sem, y0]) rfl ⟨rfl, hb4⟩
end
end Go.Proofs.YtcmbeolicopicaaGreat
