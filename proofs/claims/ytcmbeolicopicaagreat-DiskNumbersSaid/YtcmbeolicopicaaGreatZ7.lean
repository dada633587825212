/- disk: Copy. disk: Copy, the walk. disk: what is done to no disk. disk: SameTexts. -/
import Derived.Test.YtcmbeolicopicaaGreatDCr
import Derived.StillTailTactics
namespace Go.Proofs.YtcmbeolicopicaaGreat
open Go.RowKit Go.Maps Go.ChangeMaps
set_option linter.unusedVariables false
set_option linter.unusedSectionVars false
set_option linter.unusedSimpArgs false
set_option maxRecDepth 100000

theorem key_one {es : List MapEntry} {ck : Nat} (h : EsOk Tryz.prog 9 es ck) {a b : MapEntry} (ha : a ∈ es) (hb : b ∈ es) (e : a.key = b.key) : a = b := by
  obtain ⟨i, hi, rfl⟩ := List.getElem_of_mem ha
  obtain ⟨j, hj, rfl⟩ := List.getElem_of_mem hb
  rcases Nat.lt_trichotomy i j with q | q | q
  · exact absurd e (List.pairwise_iff_getElem.1 h.apart i j hi hj q)
  · subst q; rfl
  · exact absurd e.symm (List.pairwise_iff_getElem.1 h.apart j i hj hi q)
/-- A file that comes has not come. -/
theorem Cm.fresh {W : World} {st : DSt} {m r ck : Nat} {es ss : List MapEntry} {fl : List DF} {e : MapEntry} {f : DF} (h : Cm st ss fl) (ho : EsOk Tryz.prog 9 es ck) (hI : It W m r es ck (ss ++ [e])) (ek : e.key = nmV f.s) : ∀ x ∈ fl, x.s ≠ f.s := by
  intro x hx hxs
  have h1 : (nmV x.s, x.val) ∈ fl.map fun f => (nmV f.s, f.val) := List.mem_map.2 ⟨x, hx, rfl⟩
  rw [← h.eq] at h1
  obtain ⟨e', he', q⟩ := List.mem_map.1 h1
  injection q with q1 q2
  have := key_one ho (hI.sub e' (by simp [he'])) (hI.sub e (by simp)) (by rw [q1, ek, hxs])
  subst this
  have nd := hI.nd
  rw [List.map_append, List.nodup_append] at nd
  exact nd.2.2 _ (List.mem_map.2 ⟨e', he', rfl⟩) _ (by simp) rfl
/-- What holds between two rounds. -/
structure CpI (D2 : Nat) (room : Int) (w : World) (st : DSt) (r : Nat) (es : List MapEntry) (ck : Nat) (ss : List MapEntry) (fl : List DF) (B2 : Nat → Prop) (L2 : List FE) (st2 : DSt) (W : World) : Prop where
  it : It W st.m r es ck ss
  cm : Cm st ss fl
  out : DBs B2 D2 room L2 fl.length st2 W
  perm : (fl.map DF.fe).Perm L2
  own : ∀ k, B2 k → w.heap.size ≤ k ∧ k ≠ r
  low : Below w.heap.size w W
section
variable {B : Nat → Prop} {D n D2 : Nat} {room room2 : Int} {L : List FE} {st : DSt} {w : World} (h : DBs B D room L n st w) {r : Nat} {es : List MapEntry} {ck : Nat} {ss : List MapEntry} {fl : List DF} {B2 : Nat → Prop} {L2 : List FE} {st2 : DSt} {W : World}
include h
/-- A round's entry comes. -/
theorem CpI.came (hI : CpI D2 room2 w st r es ck ss fl B2 L2 st2 W) (hes : es.map (fun e => (e.key, e.val)) = st.fs.map fun f => (nmV f.s, f.val)) (ho : EsOk Tryz.prog 9 es ck) (hr : w.heap.size ≤ r) {e : MapEntry} (he : e ∈ es) {w2 : World} (hI2 : It w2 st.m r es ck (ss ++ [e])) (ha : Ag (fun k => k ≠ r) W w2) :
    ∃ f : DF, f ∈ st.fs ∧ e.val = f.val ∧ e.key = nmV f.s ∧ Cm st (ss ++ [e]) (fl ++ [f]) ∧ FAt w2 f ∧ DBs B2 D2 room2 L2 fl.length st2 w2 ∧ (∀ x ∈ fl, x.s ≠ f.s) ∧ Below w.heap.size w w2 := by
  obtain ⟨f, hf, e1, e2, hC2⟩ := hI.cm.more hes he
  have hb2 : Below w.heap.size w w2 := ⟨ha.os.trans hI.low.os, ha.tape.trans hI.low.tape, ha.output.trans hI.low.output, Nat.le_trans hI.low.size ha.size, fun k hk => (ha.block k (Nat.lt_of_lt_of_le hk hI.low.size) (by omega)).trans (hI.low.block k hk)⟩
  have hO := hI.out
  have hO2 : DBs B2 D2 room2 L2 fl.length st2 w2 := ⟨hO.dsk.keep (ha.block _ hO.dsk.dsk.lt (hI.own _ hO.hD).2) (fun k q => ha.block k (hO.dsk.olt q) (hI.own k (hO.own k q)).2) ha.size, hO.room, hO.perm, hO.srt, hO.own, hO.hD, fun j q => Nat.lt_of_lt_of_le (hO.lt j q) ha.size, hO.few, hO.nn, hO.len⟩
  exact ⟨f, hf, e2, e1, hC2, (h.dsk.below hb2).file f hf, hO2, hI.cm.fresh ho hI2 e1, hb2⟩
/-- .. and its file is put into the copy. -/
theorem CpI.put {f : DF} {e : MapEntry} {w2 w4 w5 : World} (hI : CpI D2 room2 w st r es ck ss fl B2 L2 st2 W) (hr : w.heap.size ≤ r) (hI2 : It w2 st.m r es ck (ss ++ [e])) (hf : f ∈ st.fs) (hC2 : Cm st (ss ++ [e]) (fl ++ [f])) (hO2 : DBs B2 D2 room2 L2 fl.length st2 w2) (hfresh : ∀ x ∈ fl, x.s ≠ f.s) (hb2 : Below w.heap.size w w2) (hn : fl.length + 1 ≤ 1000000)
    (hb4 : Below w2.heap.size w2 w4) {g : Nat} {A : Option Addr} {c : Nat} (hg : w2.heap.size ≤ g) (hG : Bk w4 g 62 [.slice A f.l.length c, .int .i64 f.n]) (hd : Dat w4 (fun b => w2.heap.size ≤ b) A c f.l) (hF : FAt w2 f)
    (hmt : MapTo st2.m w4 w5) (hm : ∀ (es : List MapEntry) (ck : Nat), w4.heap[st2.m]? = some (.map es.toArray ck) → w5.heap[st2.m]? = some (.map (es ++ [({ key := nmV f.s, val := .pointer (some ⟨g, 0, none⟩), born := ck } : MapEntry)]).toArray (ck + 1))) :
    ∃ B3 st3, CpI D2 room2 w st r es ck (ss ++ [e]) (fl ++ [f]) B3 (putF L2 f.fe) st3 w5 := by
  have hm2 := hO2.dsk.mlt
  have hno : ∀ x ∈ st2.fs, x.s ≠ f.s := by
    intro x hx q
    have h1 : x.fe ∈ st2.fs.map DF.fe := List.mem_map.2 ⟨x, hx, rfl⟩
    have h2 := hI.perm.mem_iff.2 (hO2.perm.mem_iff.1 h1)
    obtain ⟨y, hy, q2⟩ := List.mem_map.1 h2
    exact hfresh y hy ((congrArg FE.s q2).trans q)
  have hd5 : Dat w5 (fun _ => True) A c f.l := hd.keep (fun b q _ => hmt.far b (by omega)) (by rw [hmt.size]; exact Nat.le_refl _) (fun _ _ _ => trivial)
  have hown : ∀ b, (Value.slice A f.l.length c).ownBlock = some b → w2.heap.size ≤ b := by
    intro b q
    rcases hd.form with ⟨e1, _⟩ | ⟨b', cur, e1, hk', _⟩
    · rw [e1] at q; cases q
    · rw [e1] at q
      have q : some b' = some b := q
      injection q with q
      rw [← q]; exact hk'
  obtain ⟨B3, p1, ⟨st3, p2⟩, p3⟩ := hO2.pushF (w' := w5) (f' := ⟨f.s, g, A, c, f.l, f.n⟩) hno ⟨(hmt.far g (by omega)).trans hG, hd5, hF.len, hF.nl, hF.sl⟩ hg hown (fun k k1 k2 => (hmt.far k k2).trans (hb4.block k k1)) (by rw [hmt.size]; exact hb4.size)
    ⟨hmt.os.trans hb4.os, hmt.tape.trans hb4.tape, hmt.output.trans hb4.output⟩ (fun es ck he => hm es ck ((hb4.block _ hm2).trans he)) hn
  have hlt := hI2.lt
  refine ⟨B3, st3, hI2.keep (p3.block _ hlt.1 (fun q => ?_)) (p3.block _ hlt.2 (fun q => (hI.own r q).2 rfl)), hC2, by rw [List.length_append]; exact p2, ?_, fun k q => ?_, ?_⟩
  · have h1 := (hI.own st.m q).1
    have h2 := h.dsk.mlt
    omega
  · rw [List.map_append]
    exact perm_push (hI.perm.symm.pairwise hO2.srt.dis fun hn => Ne.symm hn) hO2.srt hI.perm (g := f.fe) (fun x hx => by obtain ⟨y, hy, rfl⟩ := List.mem_map.1 hx; exact hfresh y hy)
  · have h3 := hb2.size
    rcases p1 k q with q | q
    · exact hI.own k q
    · exact ⟨by omega, by omega⟩
  · exact hb2.trans (p3.below (n := w.heap.size) (fun j q => (hI.own j q).1) hb2.size)
end
end Go.Proofs.YtcmbeolicopicaaGreat
namespace Go.Proofs.YtcmbeolicopicaaGreat
open Go.RowKit Go.Maps Go.ChangeMaps
set_option linter.unusedVariables false
set_option linter.unusedSectionVars false
set_option linter.unusedSimpArgs false
set_option maxRecDepth 100000

theorem perm_srt {L M : List FE} (hL : Srt L) (hM : Srt M) (p : L.Perm M) : L = M := srt_one hL hM fun f => p.mem_iff
set_option maxHeartbeats 1000000 in
theorem op_copy {B : Nat → Prop} {D n : Nat} {room : Int} {L : List FE} {w : World} (h : DB B D room L n w) (hn : n + 1 ≤ 1000000) : Calls Tryz.prog 33 #[.pointer (some ⟨D, 0, none⟩)] w fun e w' => ∃ D2, e = .returned (.pointer (some ⟨D2, 0, none⟩)) ∧ (∃ B2, (∀ j, B2 j → w.heap.size ≤ j) ∧ DB B2 D2 (max room 0) L n w') ∧ Below w.heap.size w w' := by
  obtain ⟨st, h⟩ := h
  obtain ⟨es, ck, h1, h2, h3⟩ := h.dsk.map
  have hk := known_any D st.m _ w h.dsk.dsk
  have c0 := h.dsk.dsk.cell 0
  have c1 := h.dsk.dsk.cell 1
  have hrm := h.room
  simp only [List.getElem?_cons_zero, List.getElem?_cons_succ] at c0 c1
  have hnew := op_new room w
  have hlen : es.length = st.fs.length := by have := congrArg List.length h3; simpa using this
  have HL := Lib.hid hlen
  have H3 := Lib.hid h3
  clear h3 hlen
  go_enter Tryz.func33, Tryz.ntmps33
  go_wp2_with fail
  (with_reducible refine hk.mono ?_)
  rintro _ _ ⟨rfl, rfl⟩
  clear hk
  rw [hrm] at c1
  go_wp2_with fail
  (with_reducible refine hnew.mono ?_)
  rintro _ w1 ⟨D2, rfl, ⟨B2, hB2, hD2⟩, hb1⟩
  clear hnew
  obtain ⟨st2, hD2⟩ := hD2
  have h1' := (hb1.block _ h.dsk.mlt).trans h1
  have c01 := (h.dsk.below hb1).dsk.cell 0
  simp only [List.getElem?_cons_zero] at c01
  go_wp2_with (refine wpList_range_it (by rfl) (.tmp 19) 46 (by rfl) 9 59 mapTy st.m es ck (by rfl) h1' ?_; intro hI)
  have hb0 : Below w1.heap.size w1 (w1.alloc (.mapIter (some st.m) ck #[] ck)) := (Below.refl _ _).alloc (Nat.le_refl _) _
  generalize (w1.alloc (.mapIter (some st.m) ck #[] ck)) = w2 at *
  have hC : CpI D2 (max room 0) w st w1.heap.size es ck [] [] B2 [] st2 w2 := ⟨hI, Cm.nil st, hD2.below hb0, List.Perm.refl _, fun k q => ⟨hB2 k q, by have := hD2.lt k q; omega⟩, hb1.trans (hb0.mono hb1.size)⟩
  have hrw := hb1.size
  obtain ⟨r, hr⟩ : ∃ r, r = w1.heap.size := ⟨_, rfl⟩
  rw [← hr] at hC hrw ⊢
  clear hr hI hb0
  go_frame
  go_loopg [4] es.length (fun g v wr => ∃ (ss : List MapEntry) (fl : List DF) (B2 : Nat → Prop) (L2 : List FE) (st2 : DSt), CpI D2 (max room 0) w st r es ck ss fl B2 L2 st2 wr ∧ es.length ≤ fl.length + g)
  case atStart => exact ⟨[], [], _, _, _, hC, by simp⟩
  case round =>
    clear hC hD2 hB2 c01 h1'
    obtain ⟨ss, fl, B2, L2, st2, hC, hg⟩ := hrel
    go_wp2_with (refine wpList_next_it (by rfl) (.tmp 20) (by rfl) h2 hC.it (by rfl) ?done ?more)
    case done =>
      intro hp
      have hpf := hC.cm.all h.dsk H3.out h2 hp
      have hLL : L2 = L := perm_srt hC.out.srt h.srt (hC.perm.symm.trans ((hpf.map _).trans h.perm))
      have hfl : fl.length ≤ n := by
        have q1 := hpf.length_eq
        have q2 := h.perm.length_eq
        rw [List.length_map] at q2
        have := h.few
        omega
      have HF := Lib.hid (show (∃ B2, (∀ j, B2 j → w.heap.size ≤ j) ∧ DB B2 D2 (max room 0) L n wr) ∧ Below w.heap.size w wr from ⟨⟨B2, fun j q => (hC.own j q).1, (show DB B2 D2 (max room 0) L fl.length wr from hLL ▸ ⟨st2, hC.out⟩).mono hfl h.nn⟩, hC.low⟩)
      go_wp2_with fail
      go_ret
      exact ⟨D2, rfl, HF.out⟩
    case more =>
      intro e w2 he hI2 ha hre
      obtain ⟨f, hf, ev, ek, hC2, hF, hO2, hfresh, hb2⟩ := hC.came h H3.out h2 hrw he hI2 ha
      rw [ev, ek] at hre ⊢
      have q0 := hF.bk.cell 0
      have q1 := hF.bk.cell 1
      have o0 := hO2.dsk.dsk.cell 0
      simp only [List.getElem?_cons_zero, List.getElem?_cons_succ] at q0 q1 o0
      have hlen := hI2.len
      have hll : fl.length = ss.length := by have := congrArg List.length hC.cm.eq; simpa using this.symm
      have hfew := h.few'
      have hle : fl.length + 1 ≤ 1000000 := by have := HL.out; simp at hlen; omega
      have hg1 : 1 ≤ gk := by simp at hlen; omega
      have hfl := hF.len
      simp only [DF.dv] at q0
      simp only [DF.val] at hre ⊢
      clear hll hlen
      go_wp2_with fail
      refine wp_region_held_drew (S := fun w' => w'.cell? ⟨D2, 0, none⟩ = some (.map (some st2.m)) ∧ w'.cell? ⟨f.g, 0, none⟩ = some (.slice f.A f.l.length f.c) ∧ w'.cell? ⟨f.g, 1, none⟩ = some (.int .i64 f.n)) (by kernel_rfl) ⟨o0, q0, q1⟩ (fun hS => ?_)
      refine wpAnyH_take (i := 0) (v := ?_) rfl (by kernel_rfl) (by kernel_rfl) (by kernel_rfl) (fun _ _ _ h => h) (Or.inl ⟨by rfl, ?_⟩) hS ?_
      rotate_left 1
      · intro w' hSw
        go_simp <;> with_reducible rfl
      try simp only [List.getElem_toArray, List.getElem_cons_zero, List.getElem_cons_succ, Act.put, List.setIfInBounds_toArray, List.set_cons_zero, List.set_cons_succ]
      refine wpAnyH_take (i := 1) (v := ?_) rfl (by kernel_rfl) (by kernel_rfl) (by kernel_rfl) (fun _ _ _ h => h) (Or.inl ⟨by rfl, ?_⟩) hS ?_
      rotate_left 1
      · intro w' hSw
        go_simp <;> with_reducible rfl
      try simp only [List.getElem_toArray, List.getElem_cons_zero, List.getElem_cons_succ, Act.put, List.setIfInBounds_toArray, List.set_cons_zero, List.set_cons_succ]
      refine wpAnyH_take (i := 2) (v := ?_) rfl (by kernel_rfl) (by kernel_rfl) (by kernel_rfl) (fun _ _ _ h => h) (Or.inl ⟨by rfl, ?_⟩) hS ?_
      rotate_left 1
      · intro w' hSw
        go_simp <;> with_reducible rfl
      try simp only [List.getElem_toArray, List.getElem_cons_zero, List.getElem_cons_succ, Act.put, List.setIfInBounds_toArray, List.set_cons_zero, List.set_cons_succ]
      refine wpAnyH_take (i := 3) (v := ?_) rfl (by kernel_rfl) (by kernel_rfl) (by kernel_rfl) (fun _ _ _ h => h) (Or.inl ⟨by rfl, ?_⟩) hS ?_
      rotate_left 1
      · intro w' hSw
        go_simp <;> with_reducible rfl
      try simp only [List.getElem_toArray, List.getElem_cons_zero, List.getElem_cons_succ, Act.put, List.setIfInBounds_toArray, List.set_cons_zero, List.set_cons_succ]
      refine wpAnyH_take (i := 4) (v := ?_) rfl (by kernel_rfl) (by kernel_rfl) (by kernel_rfl) (fun _ _ _ h => h) (Or.inl ⟨by rfl, ?_⟩) hS ?_
      rotate_left 1
      · intro w' hSw
        go_simp <;> with_reducible rfl
      try simp only [List.getElem_toArray, List.getElem_cons_zero, List.getElem_cons_succ, Act.put, List.setIfInBounds_toArray, List.set_cons_zero, List.set_cons_succ]
      refine wpAnyH_take (i := 5) (v := ?_) rfl (by kernel_rfl) (by kernel_rfl) (by kernel_rfl) (fun _ _ _ h => h) (Or.inl ⟨by rfl, ?_⟩) hS ?_
      rotate_left 1
      · intro w' hSw
        go_simp <;> with_reducible rfl
      try simp only [List.getElem_toArray, List.getElem_cons_zero, List.getElem_cons_succ, Act.put, List.setIfInBounds_toArray, List.set_cons_zero, List.set_cons_succ]
      refine wpAnyH_take (i := 6) (v := ?_) rfl (by kernel_rfl) (by kernel_rfl) (by kernel_rfl) (fun _ _ _ h => h) (Or.inl ⟨by rfl, ?_⟩) hS ?_
      rotate_left 1
      · intro w' hSw
        go_simp <;> with_reducible rfl
      try simp only [List.getElem_toArray, List.getElem_cons_zero, List.getElem_cons_succ, Act.put, List.setIfInBounds_toArray, List.set_cons_zero, List.set_cons_succ]
      refine wpAnyH_take (i := 7) (v := ?_) rfl (by kernel_rfl) (by kernel_rfl) (by kernel_rfl) (fun _ _ _ h => h) (Or.inl ⟨by rfl, ?_⟩) hS ?_
      rotate_left 1
      · intro w' hSw
        go_simp <;> with_reducible rfl
      try simp only [List.getElem_toArray, List.getElem_cons_zero, List.getElem_cons_succ, Act.put, List.setIfInBounds_toArray, List.set_cons_zero, List.set_cons_succ]
      refine wpAnyH_take (i := 8) (v := ?_) rfl (by kernel_rfl) (by kernel_rfl) (by kernel_rfl) (fun _ _ _ h => h) (Or.inl ⟨by rfl, ?_⟩) hS ?_
      rotate_left 1
      · intro w' hSw
        go_simp <;> with_reducible rfl
      try simp only [List.getElem_toArray, List.getElem_cons_zero, List.getElem_cons_succ, Act.put, List.setIfInBounds_toArray, List.set_cons_zero, List.set_cons_succ]
      refine wpAnyH_take (i := 9) (v := ?_) rfl (by kernel_rfl) (by kernel_rfl) (by kernel_rfl) (fun _ _ _ h => h) (Or.inl ⟨by rfl, ?_⟩) hS ?_
      rotate_left 1
      · intro w' hSw
        go_simp <;> with_reducible rfl
      try simp only [List.getElem_toArray, List.getElem_cons_zero, List.getElem_cons_succ, Act.put, List.setIfInBounds_toArray, List.set_cons_zero, List.set_cons_succ]
      refine wpAnyH_take (i := 11) (v := ?_) rfl (by kernel_rfl) (by kernel_rfl) (by kernel_rfl) (fun _ _ _ h => h) (Or.inl ⟨by rfl, ?_⟩) hS ?_
      rotate_left 1
      · intro w' hSw
        go_simp <;> with_reducible rfl
      try simp only [List.getElem_toArray, List.getElem_cons_zero, List.getElem_cons_succ, Act.put, List.setIfInBounds_toArray, List.set_cons_zero, List.set_cons_succ]
      refine wpAnyH_take (i := 12) (v := ?_) rfl (by kernel_rfl) (by kernel_rfl) (by kernel_rfl) (fun _ _ _ h => h) (Or.inl ⟨by rfl, ?_⟩) hS ?_
      rotate_left 1
      · intro w' hSw
        go_simp <;> with_reducible rfl
      try simp only [List.getElem_toArray, List.getElem_cons_zero, List.getElem_cons_succ, Act.put, List.setIfInBounds_toArray, List.set_cons_zero, List.set_cons_succ]
      refine wpAnyH_take (i := 13) (v := ?_) rfl (by kernel_rfl) (by kernel_rfl) (by kernel_rfl) (fun _ _ _ h => h) (Or.inl ⟨by rfl, ?_⟩) hS ?_
      rotate_left 1
      · intro w' hSw
        go_simp <;> with_reducible rfl
      try simp only [List.getElem_toArray, List.getElem_cons_zero, List.getElem_cons_succ, Act.put, List.setIfInBounds_toArray, List.set_cons_zero, List.set_cons_succ]
      refine wpAnyH_take (i := 14) (v := ?_) rfl (by kernel_rfl) (by kernel_rfl) (by kernel_rfl) (fun _ _ _ h => h) (Or.inl ⟨by rfl, ?_⟩) hS ?_
      rotate_left 1
      · intro w' hSw
        go_simp <;> with_reducible rfl
      try simp only [List.getElem_toArray, List.getElem_cons_zero, List.getElem_cons_succ, Act.put, List.setIfInBounds_toArray, List.set_cons_zero, List.set_cons_succ]
      refine wpAnyH_ready (rs := [10]) (by kernel_rfl) (by simp) (AllReadyH.cons rfl (fun K hK => ?_) AllReadyH.nil)
      go_simp
      (with_reducible refine (clone_any _ f.A f.c f.l w2.drew (hF.heap_ (w' := w2.drew) rfl).dat.rd.1 (by omega)).mono ?_)
      rintro _ w3 ⟨A3, c3, rfl, hd3, hb3⟩
      have hbw3 : Below w2.heap.size w2 w3 := (Below.refl w2.heap.size w2).drew.trans hb3
      have hF3 := hF.keep (hbw3.block _ hF.bk.lt) (fun b q => hbw3.block b (hF.dlt q)) hbw3.size
      have s3 : w3.cell? ⟨D2, 0, none⟩ = some (.map (some st2.m)) ∧ w3.cell? ⟨f.g, 0, none⟩ = some (.slice f.A f.l.length f.c) ∧ w3.cell? ⟨f.g, 1, none⟩ = some (.int .i64 f.n) := ⟨(hO2.dsk.below hbw3).dsk.cell 0, hF3.bk.cell 0, hF3.bk.cell 1⟩
      refine hK _ _ s3 (fun hS => ?_)
      clear hK K
      try simp only [List.getElem_toArray, List.getElem_cons_zero, List.getElem_cons_succ, Act.put, List.setIfInBounds_toArray, List.set_cons_zero, List.set_cons_succ]
      refine wpAnyH_take (i := 15) (v := ?_) rfl (by kernel_rfl) (by kernel_rfl) (by kernel_rfl) (fun _ _ _ h => h) (Or.inl ⟨by rfl, ?_⟩) hS ?_
      rotate_left 1
      · intro w' hSw
        go_simp <;> with_reducible rfl
      try simp only [List.getElem_toArray, List.getElem_cons_zero, List.getElem_cons_succ, Act.put, List.setIfInBounds_toArray, List.set_cons_zero, List.set_cons_succ]
      refine wpAnyH_ready (rs := [16]) (by kernel_rfl) (by simp) (AllReadyH.cons rfl (fun K hK => ?_) AllReadyH.nil)
      go_simp
      have hbw4 : Below w2.heap.size w2 (w3.alloc (.cells #[.slice A3 f.l.length c3, .int .i64 f.n] 62)) := hbw3.alloc hbw3.size _
      have hG4 : Bk (w3.alloc (.cells #[.slice A3 f.l.length c3, .int .i64 f.n] 62)) w3.heap.size 62 [.slice A3 f.l.length c3, .int .i64 f.n] := Bk.new w3 _ [.slice A3 f.l.length c3, .int .i64 f.n]
      have hd4 : Dat (w3.alloc (.cells #[.slice A3 f.l.length c3, .int .i64 f.n] 62)) (fun b => w2.heap.size ≤ b) A3 c3 f.l := hd3.keep (fun b _ q => heap_alloc_old _ _ q) (by simp) (fun b q _ => q)
      have hF4 := hF.keep (hbw4.block _ hF.bk.lt) (fun b q => hbw4.block b (hF.dlt q)) hbw4.size
      have hO4 := hO2.below hbw4
      have hg4 := hbw3.size
      generalize w3.heap.size = g4 at *
      generalize w3.alloc (.cells #[.slice A3 f.l.length c3, .int .i64 f.n] 62) = w4 at *
      have s4 : w4.cell? ⟨D2, 0, none⟩ = some (.map (some st2.m)) ∧ w4.cell? ⟨f.g, 0, none⟩ = some (.slice f.A f.l.length f.c) ∧ w4.cell? ⟨f.g, 1, none⟩ = some (.int .i64 f.n) := ⟨hO4.dsk.dsk.cell 0, hF4.bk.cell 0, hF4.bk.cell 1⟩
      refine hK _ _ s4 (fun hS => ?_)
      clear hK K
      try simp only [List.getElem_toArray, List.getElem_cons_zero, List.getElem_cons_succ, Act.put, List.setIfInBounds_toArray, List.set_cons_zero, List.set_cons_succ]
      refine wpAnyH_ready (rs := [17]) (by kernel_rfl) (by simp) (AllReadyH.cons rfl (fun K hK => ?_) AllReadyH.nil)
      have hno4 : ∀ x ∈ st2.fs, x.s ≠ f.s := by
        intro x hx q
        have h1 : x.fe ∈ st2.fs.map DF.fe := List.mem_map.2 ⟨x, hx, rfl⟩
        have h2 := hC.perm.mem_iff.2 (hO2.perm.mem_iff.1 h1)
        obtain ⟨y, hy, q2⟩ := List.mem_map.1 h2
        exact hfresh y hy ((congrArg FE.s q2).trans q)
      obtain ⟨w5, hput, hmt, hm⟩ := hO4.put_new f.s (by have := hF.sl; omega) hno4 (.pointer (some ⟨g4, 0, none⟩)) w4 rfl
      obtain ⟨B5, st5, hC5⟩ := hC.put h hrw hI2 hf hC2 hO2 hfresh hb2 hle hbw4 hg4 hG4 hd4 hF hmt hm
      have hne : ∀ {k t cs}, Bk w4 k t cs → k ≠ st2.m := by
        rintro k t cs hk rfl
        obtain ⟨es', ck', q, _⟩ := hO4.dsk.map
        rw [hk] at q; cases q
      have s5 : w5.cell? ⟨D2, 0, none⟩ = some (.map (some st2.m)) ∧ w5.cell? ⟨f.g, 0, none⟩ = some (.slice f.A f.l.length f.c) ∧ w5.cell? ⟨f.g, 1, none⟩ = some (.int .i64 f.n) := ⟨(World.cell?_of_block (hmt.far D2 (hne hO4.dsk.dsk))).trans s4.1, (World.cell?_of_block (hmt.far f.g (hne hF4.bk))).trans s4.2.1, (World.cell?_of_block (hmt.far f.g (hne hF4.bk))).trans s4.2.2⟩
      refine step_upd (by rfl) 46 (.tmp 30) (.tmp 31) (.tmp 42) (by rfl) (by rfl) (by rfl) (by rfl) hput ?_
      refine hK _ _ s5 (fun hS => ?_)
      clear hK K
      try simp only [List.getElem_toArray, List.getElem_cons_zero, List.getElem_cons_succ, Act.put, List.setIfInBounds_toArray, List.set_cons_zero, List.set_cons_succ]
      refine wpAnyH_done (by kernel_rfl) ?_ _
      go_wp2_with fail
      go_roundg (gk - 1)
      case measure => omega
      case rel => exact ⟨_, _, _, _, _, hC5, by simp; omega⟩
end Go.Proofs.YtcmbeolicopicaaGreat
namespace Go.Proofs.YtcmbeolicopicaaGreat
open Go.RowKit Go.Maps Go.ChangeMaps
set_option linter.unusedVariables false
set_option linter.unusedSectionVars false
set_option linter.unusedSimpArgs false
set_option maxRecDepth 100000

/-- No disk, or one that nobody made. -/
def ND (v : Value) (w : World) : Prop := v = .pointer none ∨ ∃ D, v = .pointer (some ⟨D, 0, none⟩) ∧ Bk w D 50 [.map none, .int .i64 0]
theorem ND.below {v : Value} {w w' : World} (h : ND v w) (hb : Below w.heap.size w w') : ND v w' := by
  rcases h with h | ⟨D, h, hD⟩
  · exact .inl h
  · exact .inr ⟨D, h, hD.below hb hD.lt⟩
theorem run_neq_map0 (w : World) : (binOp .neq 46 (.map none) (.map none)).run Tryz.prog w = .ok (.bool false) w := run_neq_map_nil w _ _ _ none Tryz.underlying46
theorem known_not {v : Value} {w : World} (h : ND v w) : Calls Tryz.prog 43 #[v] w fun e w' => e = .returned (.bool false) ∧ w = w' := by
  have hm := run_neq_map0
  rcases h with rfl | ⟨D, rfl, hD⟩
  · go_enter Tryz.func43, Tryz.ntmps43
    go_wp2_with fail
    go_ret
    exact ⟨rfl, rfl⟩
  · have c0 := hD.cell 0
    simp only [List.getElem?_cons_zero] at c0
    go_enter Tryz.func43, Tryz.ntmps43
    go_wp2_with fail
    go_ret
    exact ⟨rfl, rfl⟩
section
variable {v : Value} {w : World} (h : ND v w) (s : Nm)
include h
theorem with_not (fv : Value) : Calls Tryz.prog 21 #[v, nmV s, fv] w fun e w' => e = .returned (.int .i64 1) ∧ w = w' := by
  have hk := known_not h
  unfold nmV at *
  go_enter Tryz.func21, Tryz.ntmps21
  go_wp2_with fail
  (with_reducible refine hk.mono ?_)
  rintro _ _ ⟨rfl, rfl⟩
  clear hk
  go_wp2_with fail
  go_ret
  exact ⟨rfl, rfl⟩
theorem sync_not : Calls Tryz.prog 18 #[v, nmV s] w fun e w' => e = .returned (.int .i64 1) ∧ Below w.heap.size w w' := by
  have hw := with_not h s (.func (.func 53) #[] #[])
  unfold nmV at *
  go_enter Tryz.func18, Tryz.ntmps18
  go_wp2_with fail
  (with_reducible refine hw.mono ?_)
  rintro _ _ ⟨rfl, rfl⟩
  go_wp2_with fail
  go_ret
  exact ⟨rfl, Below.refl _ _⟩
theorem cut_not (m : Int) : Calls Tryz.prog 27 #[v, nmV s, .int .i64 m] w fun e w' => e = .returned (.int .i64 1) ∧ Below w.heap.size w w' := by
  have hb1 : Below w.heap.size w (w.alloc (.cells #[.int .i64 m] 3)) := (Below.refl _ _).alloc (Nat.le_refl _) _
  have hw := with_not (h.below hb1) s (.func (.func 55) #[] #[.pointer (some ⟨w.heap.size, 0, none⟩)])
  unfold nmV at *
  go_enter Tryz.func27, Tryz.ntmps27
  go_wp2_with fail
  (with_reducible refine hw.mono ?_)
  rintro _ _ ⟨rfl, rfl⟩
  clear hw
  go_wp2_with fail
  go_ret
  exact ⟨rfl, hb1⟩
theorem crash_not (m : Int) : Calls Tryz.prog 14 #[v, .int .i64 m] w fun e w' => e = .returned (.int .i64 1) ∧ Below w.heap.size w w' := by
  have hk := known_not h
  go_enter Tryz.func14, Tryz.ntmps14
  go_wp2_with fail
  (with_reducible refine hk.mono ?_)
  rintro _ _ ⟨rfl, rfl⟩
  clear hk
  go_wp2_with fail
  go_ret
  exact ⟨rfl, Below.refl _ _⟩
theorem used_not : Calls Tryz.prog 17 #[v] w fun e w' => e = .returned (.int .i64 0) ∧ Below w.heap.size w w' := by
  have hk := known_not h
  go_enter Tryz.func17, Tryz.ntmps17
  go_wp2_with fail
  (with_reducible refine hk.mono ?_)
  rintro _ _ ⟨rfl, rfl⟩
  clear hk
  go_wp2_with fail
  go_ret
  exact ⟨rfl, Below.refl _ _⟩
theorem list_not : Calls Tryz.prog 20 #[v] w fun e w' => e = .returned (.slice none 0 0) ∧ Below w.heap.size w w' := by
  have hk := known_not h
  go_enter Tryz.func20, Tryz.ntmps20
  go_wp2_with fail
  (with_reducible refine hk.mono ?_)
  rintro _ _ ⟨rfl, rfl⟩
  clear hk
  go_wp2_with fail
  go_ret
  exact ⟨rfl, Below.refl _ _⟩
theorem copy_not : Calls Tryz.prog 33 #[v] w fun e w' => e = .returned (.pointer none) ∧ Below w.heap.size w w' := by
  have hk := known_not h
  go_enter Tryz.func33, Tryz.ntmps33
  go_wp2_with fail
  (with_reducible refine hk.mono ?_)
  rintro _ _ ⟨rfl, rfl⟩
  clear hk
  go_wp2_with fail
  go_ret
  exact ⟨rfl, Below.refl _ _⟩
theorem append_not (b : Value) : Calls Tryz.prog 16 #[v, nmV s, b] w fun e w' => e = .returned (.int .i64 1) ∧ Below w.heap.size w w' := by
  have hk := known_not h
  unfold nmV at *
  go_enter Tryz.func16, Tryz.ntmps16
  go_wp2_with fail
  (with_reducible refine hk.mono ?_)
  rintro _ _ ⟨rfl, rfl⟩
  clear hk
  go_wp2_with fail
  go_ret
  exact ⟨rfl, Below.refl _ _⟩
theorem remove_not : Calls Tryz.prog 31 #[v, nmV s] w fun e w' => e = .returned (.int .i64 1) ∧ Below w.heap.size w w' := by
  have hb1 : Below w.heap.size w ((w.alloc (.cells #[v] 23)).alloc (.cells #[nmV s] 9)) := ((Below.refl _ _).alloc (Nat.le_refl _) _).alloc (by simp) _
  have hw := with_not (h.below hb1) s (.func (.func 59) #[] #[.pointer (some ⟨w.heap.size, 0, none⟩), .pointer (some ⟨w.heap.size + 1, 0, none⟩)])
  rcases h with rfl | ⟨D, rfl, hD⟩ <;> (
    unfold nmV at *
    go_enter Tryz.func31, Tryz.ntmps31
    go_wp2_with fail
    (with_reducible refine hw.mono ?_)
    rintro _ _ ⟨rfl, rfl⟩
    clear hw
    go_wp2_with fail
    go_ret
    exact ⟨rfl, hb1⟩)
theorem rename_not (t : Nm) : Calls Tryz.prog 29 #[v, nmV s, nmV t] w fun e w' => e = .returned (.int .i64 1) ∧ Below w.heap.size w w' := by
  have hb1 : Below w.heap.size w (((w.alloc (.cells #[v] 23)).alloc (.cells #[nmV s] 9)).alloc (.cells #[nmV t] 9)) := (((Below.refl _ _).alloc (Nat.le_refl _) _).alloc (by simp) _).alloc (by simp; omega) _
  have hk := known_not (h.below hb1)
  rcases h with rfl | ⟨D, rfl, hD⟩ <;> (
    unfold nmV at *
    go_enter Tryz.func29, Tryz.ntmps29
    go_wp2_with fail
    (with_reducible refine hk.mono ?_)
    rintro _ _ ⟨rfl, rfl⟩
    clear hk
    go_wp2_with fail
    go_ret
    exact ⟨rfl, hb1⟩)
theorem read_not : Calls Tryz.prog 8 #[v, nmV s] w fun e w' => e = .returned (.tuple #[.slice none 0 0, .int .i64 1]) ∧ Below w.heap.size w w' := by
  have hb1 : Below w.heap.size w (w.alloc (.cells #[.slice none 0 0] 29)) := (Below.refl _ _).alloc (Nat.le_refl _) _
  have hX : Bk (w.alloc (.cells #[.slice none 0 0] 29)) w.heap.size 29 [.slice none 0 0] := Bk.new w 29 [.slice none 0 0]
  have hw := with_not (h.below hb1) s (.func (.func 22) #[] #[.pointer (some ⟨w.heap.size, 0, none⟩)])
  unfold nmV at *
  go_enter Tryz.func8, Tryz.ntmps8
  go_wp2_with fail
  generalize (w.alloc (.cells #[.slice none 0 0] 29)) = w1 at *
  (with_reducible refine hw.mono ?_)
  rintro _ _ ⟨rfl, rfl⟩
  clear hw
  have x0 := hX.cell 0
  have z0 := hX.frozen 0
  simp only [List.getElem?_cons_zero] at x0
  have y0 := (hX.set 0 (.slice none 0 0)).cell 0
  simp only [List.getElem?_cons_zero, List.set_cons_zero] at y0
  have hb4 := hb1.setCell (p := ⟨w.heap.size, 0, none⟩) (Nat.le_refl _) (.slice none 0 0)
  go_wp2_with fail
  exact bodyPost_ret (v := .tuple #[.slice none 0 0, .int .i64 1]) (by simp [results, Tryz.results8, go_sem, y0]) rfl ⟨rfl, hb4⟩
end
end Go.Proofs.YtcmbeolicopicaaGreat
namespace Go.Proofs.YtcmbeolicopicaaGreat
open Go.RowKit Go.Maps Go.ChangeMaps
set_option linter.unusedVariables false
set_option linter.unusedSectionVars false
set_option linter.unusedSimpArgs false
set_option maxRecDepth 100000

/-- The two lists' first k texts are the same. -/
def AgreeT (xs ys : List Nm) (k : Nat) : Prop := ∀ j, j < k → xs[j]? = ys[j]?
theorem AgreeT.succ {xs ys : List Nm} {k : Nat} (h : AgreeT xs ys k) (e : xs[k]? = ys[k]?) : AgreeT xs ys (k + 1) := by
  intro j hj
  rcases Nat.lt_or_ge j k with h1 | h1
  · exact h j h1
  · obtain rfl : j = k := by omega
    exact e
theorem AgreeT.all {xs ys : List Nm} {k : Nat} (h : AgreeT xs ys k) (hk : xs.length ≤ k) (hl : xs.length = ys.length) : xs = ys := by
  apply List.ext_getElem?
  intro i
  rcases Nat.lt_or_ge i k with h1 | h1
  · exact h i h1
  · rw [List.getElem?_eq_none (by omega), List.getElem?_eq_none (by omega)]
theorem Rd.nm_at {w : World} {K : Nat → Prop} {A : Option Addr} {l : List Nm} {c : Nat} (h : Rd w K A c (l.map nmV)) {k : Nat} (hk : k < l.length) :
    ∃ a x, A = some a ∧ K a.block ∧ w.cell? (a.add k) = some (nmV x) ∧ Hid (l[k]? = some x) := by
  obtain ⟨a, e, hb, hc⟩ := h.2 (by intro e; rw [List.map_eq_nil_iff.1 e] at hk; simp at hk)
  exact ⟨a, l[k], e, hb, hc k _ (by simp [hk]), List.getElem?_eq_getElem hk⟩
theorem SameTexts_any (KA KB : Nat → Prop) (A B : Option Addr) (c d : Nat) (xs ys : List Nm) (w : World) (ha : Rd w KA A c (xs.map nmV)) (hb : Rd w KB B d (ys.map nmV))
    (hn : xs.length ≤ 9223372036854775807) (hm : ys.length ≤ 9223372036854775807) :
    Calls Tryz.prog 19 #[.slice A xs.length c, .slice B ys.length d] w fun e w' => e = .returned (.bool (decide (xs = ys))) ∧ ∃ k, w' = w.drewN k := by
  by_cases hl : xs.length = ys.length
  · have hne : ((xs.length : Int) != (ys.length : Int)) = false := by simp [hl]
    have HL := Lib.hid hl
    clear hl
    go_enter Tryz.func19, Tryz.ntmps19
    go_wp2
    clear hne
    go_loopw [5] (fun i wr => ∃ k q : Nat, k ≤ xs.length ∧ i = .int .i64 k ∧ AgreeT xs ys k ∧ wr = w.drewN q) (fun i _ => xs.length - (intOf i).toNat)
    case atStart => exact ⟨0, 0, Nat.zero_le _, rfl, fun j hj => absurd hj (by omega), rfl⟩
    case round =>
      obtain ⟨k, q, hk, rfl, hag, rfl⟩ := hrel
      have HA := Lib.hid hag
      clear hag
      by_cases hlt : k < xs.length
      · have hlt2 : k < ys.length := by have := HL.out; omega
        obtain ⟨a, x, rfl, _, ca, hx⟩ := ha.nm_at hlt
        obtain ⟨b, y, rfl, _, cb, hy⟩ := hb.nm_at hlt2
        unfold nmV at ca cb
        by_cases he : x = y
        · have hb' : (x == y) = true := by simp [he]
          have HE : Hid (xs[k]? = ys[k]?) := by rw [hx.out, hy.out, he]; exact rfl
          clear he
          go_wp2
          go_quiet (fail)
          go_wp2
          go_roundw
          case rel => exact ⟨k + 1, _, by omega, by go_num, HA.out.succ HE.out, rfl⟩
          case measure => simp [intOf]; omega
        · have hb' : (x == y) = false := by simp [he]
          have HE : Hid (xs ≠ ys) := by intro e; subst e; have h1 := hx.out; rw [hy.out] at h1; injection h1 with h1; exact he h1.symm
          clear he
          go_wp2
          go_quiet (fail)
          go_wp2
          go_ret
          exact ⟨by simp [HE.out], _, World.drewN_drewN _ _ _⟩
      · go_wp2
        go_ret
        exact ⟨by simp [HA.out.all (by omega) HL.out], _, rfl⟩
  · have hne : ((xs.length : Int) != (ys.length : Int)) = true := by simp; omega
    go_enter Tryz.func19, Tryz.ntmps19
    go_wp2
    go_ret
    refine ⟨?_, 0, rfl⟩
    have : xs ≠ ys := fun e => hl (by rw [e])
    simp [this]
end Go.Proofs.YtcmbeolicopicaaGreat
