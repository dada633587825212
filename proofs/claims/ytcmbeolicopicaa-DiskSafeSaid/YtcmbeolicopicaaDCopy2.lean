/- disk: Copy, the walk. -/
import Derived.Test.YtcmbeolicopicaaDCopy
namespace Go.Proofs.Ytcmbeolicopicaa
open Go.RowKit Go.Maps Go.ChangeMaps
set_option linter.unusedVariables false
set_option linter.unusedSectionVars false
set_option linter.unusedSimpArgs false
set_option maxRecDepth 100000

theorem perm_srt {L M : List FE} (hL : Srt L) (hM : Srt M) (p : L.Perm M) : L = M := srt_one hL hM fun f => p.mem_iff
set_option maxHeartbeats 1000000 in
theorem op_copy {B : Nat → Prop} {D n : Nat} {room : Int} {L : List FE} {w : World} (h : DB B D room L n w) (hn : n + 1 ≤ 1000000) : Calls Try.prog 13 #[.pointer (some ⟨D, 0, none⟩)] w fun e w' => ∃ D2, e = .returned (.pointer (some ⟨D2, 0, none⟩)) ∧ (∃ B2, (∀ j, B2 j → w.heap.size ≤ j) ∧ DB B2 D2 (max room 0) L n w') ∧ Below w.heap.size w w' := by
  obtain ⟨st, h⟩ := h
  obtain ⟨es, ck, h1, h2, h3⟩ := h.dsk.map
  have hk := known_any D st.m _ w h.dsk.dsk
  have c0 := h.dsk.dsk.cell 0
  have c1 := h.dsk.dsk.cell 1
  have hrm := h.room
  simp only [List.getElem?_cons_zero, List.getElem?_cons_succ] at c0 c1
  have hnew := op_new room w
  have hlen : es.length = st.fs.length := by have := congrArg List.length h3; simpa using this
  have HL := Lib.hid hlen
  have H3 := Lib.hid h3
  clear h3 hlen
  go_enter Try.func13, Try.ntmps13
  go_wp2_with fail
  (with_reducible refine hk.mono ?_)
  rintro _ _ ⟨rfl, rfl⟩
  clear hk
  rw [hrm] at c1
  go_wp2_with fail
  (with_reducible refine hnew.mono ?_)
  rintro _ w1 ⟨D2, rfl, ⟨B2, hB2, hD2⟩, hb1⟩
  clear hnew
  obtain ⟨st2, hD2⟩ := hD2
  have h1' := (hb1.block _ h.dsk.mlt).trans h1
  have c01 := (h.dsk.below hb1).dsk.cell 0
  simp only [List.getElem?_cons_zero] at c01
  go_wp2_with (refine wpList_range_it (by rfl) (.tmp 19) 45 (by rfl) 9 56 mapTy st.m es ck (by rfl) h1' ?_; intro hI)
  have hb0 : Below w1.heap.size w1 (w1.alloc (.mapIter (some st.m) ck #[] ck)) := (Below.refl _ _).alloc (Nat.le_refl _) _
  generalize (w1.alloc (.mapIter (some st.m) ck #[] ck)) = w2 at *
  have hC : CpI D2 (max room 0) w st w1.heap.size es ck [] [] B2 [] st2 w2 := ⟨hI, Cm.nil st, hD2.below hb0, List.Perm.refl _, fun k q => ⟨hB2 k q, by have := hD2.lt k q; omega⟩, hb1.trans (hb0.mono hb1.size)⟩
  have hrw := hb1.size
  obtain ⟨r, hr⟩ : ∃ r, r = w1.heap.size := ⟨_, rfl⟩
  rw [← hr] at hC hrw ⊢
  clear hr hI hb0
  go_frame
  go_loopg [4] es.length (fun g v wr => ∃ (ss : List MapEntry) (fl : List DF) (B2 : Nat → Prop) (L2 : List FE) (st2 : DSt), CpI D2 (max room 0) w st r es ck ss fl B2 L2 st2 wr ∧ es.length ≤ fl.length + g)
  case atStart => exact ⟨[], [], _, _, _, hC, by simp⟩
  case round =>
    clear hC hD2 hB2 c01 h1'
    obtain ⟨ss, fl, B2, L2, st2, hC, hg⟩ := hrel
    go_wp2_with (refine wpList_next_it (by rfl) (.tmp 20) (by rfl) h2 hC.it (by rfl) ?done ?more)
    case done =>
      intro hp
      have hpf := hC.cm.all h.dsk H3.out h2 hp
      have hLL : L2 = L := perm_srt hC.out.srt h.srt (hC.perm.symm.trans ((hpf.map _).trans h.perm))
      have hfl : fl.length ≤ n := by
        have q1 := hpf.length_eq
        have q2 := h.perm.length_eq
        rw [List.length_map] at q2
        have := h.few
        omega
      have HF := Lib.hid (show (∃ B2, (∀ j, B2 j → w.heap.size ≤ j) ∧ DB B2 D2 (max room 0) L n wr) ∧ Below w.heap.size w wr from ⟨⟨B2, fun j q => (hC.own j q).1, (show DB B2 D2 (max room 0) L fl.length wr from hLL ▸ ⟨st2, hC.out⟩).mono hfl h.nn⟩, hC.low⟩)
      go_wp2_with fail
      go_ret
      exact ⟨D2, rfl, HF.out⟩
    case more =>
      intro e w2 he hI2 ha hre
      obtain ⟨f, hf, ev, ek, hC2, hF, hO2, hfresh, hb2⟩ := hC.came h H3.out h2 hrw he hI2 ha
      rw [ev, ek] at hre ⊢
      have q0 := hF.bk.cell 0
      have q1 := hF.bk.cell 1
      have o0 := hO2.dsk.dsk.cell 0
      simp only [List.getElem?_cons_zero, List.getElem?_cons_succ] at q0 q1 o0
      have hlen := hI2.len
      have hll : fl.length = ss.length := by have := congrArg List.length hC.cm.eq; simpa using this.symm
      have hfew := h.few'
      have hle : fl.length + 1 ≤ 1000000 := by have := HL.out; simp at hlen; omega
      have hg1 : 1 ≤ gk := by simp at hlen; omega
      have hfl := hF.len
      simp only [DF.dv] at q0
      simp only [DF.val] at hre ⊢
      clear hll hlen
      go_wp2_with fail
      refine wp_region_held_drew (S := fun w' => w'.cell? ⟨D2, 0, none⟩ = some (.map (some st2.m)) ∧ w'.cell? ⟨f.g, 0, none⟩ = some (.slice f.A f.l.length f.c) ∧ w'.cell? ⟨f.g, 1, none⟩ = some (.int .i64 f.n)) (by kernel_rfl) ⟨o0, q0, q1⟩ (fun hS => ?_)
      refine wpAnyH_take (i := 0) (v := ?_) rfl (by kernel_rfl) (by kernel_rfl) (by kernel_rfl) (fun _ _ _ h => h) (Or.inl ⟨by rfl, ?_⟩) hS ?_
      rotate_left 1
      · intro w' hSw
        go_simp <;> with_reducible rfl
      try simp only [List.getElem_toArray, List.getElem_cons_zero, List.getElem_cons_succ, Act.put, List.setIfInBounds_toArray, List.set_cons_zero, List.set_cons_succ]
      refine wpAnyH_take (i := 1) (v := ?_) rfl (by kernel_rfl) (by kernel_rfl) (by kernel_rfl) (fun _ _ _ h => h) (Or.inl ⟨by rfl, ?_⟩) hS ?_
      rotate_left 1
      · intro w' hSw
        go_simp <;> with_reducible rfl
      try simp only [List.getElem_toArray, List.getElem_cons_zero, List.getElem_cons_succ, Act.put, List.setIfInBounds_toArray, List.set_cons_zero, List.set_cons_succ]
      refine wpAnyH_take (i := 2) (v := ?_) rfl (by kernel_rfl) (by kernel_rfl) (by kernel_rfl) (fun _ _ _ h => h) (Or.inl ⟨by rfl, ?_⟩) hS ?_
      rotate_left 1
      · intro w' hSw
        go_simp <;> with_reducible rfl
      try simp only [List.getElem_toArray, List.getElem_cons_zero, List.getElem_cons_succ, Act.put, List.setIfInBounds_toArray, List.set_cons_zero, List.set_cons_succ]
      refine wpAnyH_take (i := 3) (v := ?_) rfl (by kernel_rfl) (by kernel_rfl) (by kernel_rfl) (fun _ _ _ h => h) (Or.inl ⟨by rfl, ?_⟩) hS ?_
      rotate_left 1
      · intro w' hSw
        go_simp <;> with_reducible rfl
      try simp only [List.getElem_toArray, List.getElem_cons_zero, List.getElem_cons_succ, Act.put, List.setIfInBounds_toArray, List.set_cons_zero, List.set_cons_succ]
      refine wpAnyH_take (i := 4) (v := ?_) rfl (by kernel_rfl) (by kernel_rfl) (by kernel_rfl) (fun _ _ _ h => h) (Or.inl ⟨by rfl, ?_⟩) hS ?_
      rotate_left 1
      · intro w' hSw
        go_simp <;> with_reducible rfl
      try simp only [List.getElem_toArray, List.getElem_cons_zero, List.getElem_cons_succ, Act.put, List.setIfInBounds_toArray, List.set_cons_zero, List.set_cons_succ]
      refine wpAnyH_take (i := 5) (v := ?_) rfl (by kernel_rfl) (by kernel_rfl) (by kernel_rfl) (fun _ _ _ h => h) (Or.inl ⟨by rfl, ?_⟩) hS ?_
      rotate_left 1
      · intro w' hSw
        go_simp <;> with_reducible rfl
      try simp only [List.getElem_toArray, List.getElem_cons_zero, List.getElem_cons_succ, Act.put, List.setIfInBounds_toArray, List.set_cons_zero, List.set_cons_succ]
      refine wpAnyH_take (i := 6) (v := ?_) rfl (by kernel_rfl) (by kernel_rfl) (by kernel_rfl) (fun _ _ _ h => h) (Or.inl ⟨by rfl, ?_⟩) hS ?_
      rotate_left 1
      · intro w' hSw
        go_simp <;> with_reducible rfl
      try simp only [List.getElem_toArray, List.getElem_cons_zero, List.getElem_cons_succ, Act.put, List.setIfInBounds_toArray, List.set_cons_zero, List.set_cons_succ]
      refine wpAnyH_take (i := 7) (v := ?_) rfl (by kernel_rfl) (by kernel_rfl) (by kernel_rfl) (fun _ _ _ h => h) (Or.inl ⟨by rfl, ?_⟩) hS ?_
      rotate_left 1
      · intro w' hSw
        go_simp <;> with_reducible rfl
      try simp only [List.getElem_toArray, List.getElem_cons_zero, List.getElem_cons_succ, Act.put, List.setIfInBounds_toArray, List.set_cons_zero, List.set_cons_succ]
      refine wpAnyH_take (i := 8) (v := ?_) rfl (by kernel_rfl) (by kernel_rfl) (by kernel_rfl) (fun _ _ _ h => h) (Or.inl ⟨by rfl, ?_⟩) hS ?_
      rotate_left 1
      · intro w' hSw
        go_simp <;> with_reducible rfl
      try simp only [List.getElem_toArray, List.getElem_cons_zero, List.getElem_cons_succ, Act.put, List.setIfInBounds_toArray, List.set_cons_zero, List.set_cons_succ]
      refine wpAnyH_take (i := 9) (v := ?_) rfl (by kernel_rfl) (by kernel_rfl) (by kernel_rfl) (fun _ _ _ h => h) (Or.inl ⟨by rfl, ?_⟩) hS ?_
      rotate_left 1
      · intro w' hSw
        go_simp <;> with_reducible rfl
      try simp only [List.getElem_toArray, List.getElem_cons_zero, List.getElem_cons_succ, Act.put, List.setIfInBounds_toArray, List.set_cons_zero, List.set_cons_succ]
      refine wpAnyH_take (i := 11) (v := ?_) rfl (by kernel_rfl) (by kernel_rfl) (by kernel_rfl) (fun _ _ _ h => h) (Or.inl ⟨by rfl, ?_⟩) hS ?_
      rotate_left 1
      · intro w' hSw
        go_simp <;> with_reducible rfl
      try simp only [List.getElem_toArray, List.getElem_cons_zero, List.getElem_cons_succ, Act.put, List.setIfInBounds_toArray, List.set_cons_zero, List.set_cons_succ]
      refine wpAnyH_take (i := 12) (v := ?_) rfl (by kernel_rfl) (by kernel_rfl) (by kernel_rfl) (fun _ _ _ h => h) (Or.inl ⟨by rfl, ?_⟩) hS ?_
      rotate_left 1
      · intro w' hSw
        go_simp <;> with_reducible rfl
      try simp only [List.getElem_toArray, List.getElem_cons_zero, List.getElem_cons_succ, Act.put, List.setIfInBounds_toArray, List.set_cons_zero, List.set_cons_succ]
      refine wpAnyH_take (i := 13) (v := ?_) rfl (by kernel_rfl) (by kernel_rfl) (by kernel_rfl) (fun _ _ _ h => h) (Or.inl ⟨by rfl, ?_⟩) hS ?_
      rotate_left 1
      · intro w' hSw
        go_simp <;> with_reducible rfl
      try simp only [List.getElem_toArray, List.getElem_cons_zero, List.getElem_cons_succ, Act.put, List.setIfInBounds_toArray, List.set_cons_zero, List.set_cons_succ]
      refine wpAnyH_take (i := 14) (v := ?_) rfl (by kernel_rfl) (by kernel_rfl) (by kernel_rfl) (fun _ _ _ h => h) (Or.inl ⟨by rfl, ?_⟩) hS ?_
      rotate_left 1
      · intro w' hSw
        go_simp <;> with_reducible rfl
      try simp only [List.getElem_toArray, List.getElem_cons_zero, List.getElem_cons_succ, Act.put, List.setIfInBounds_toArray, List.set_cons_zero, List.set_cons_succ]
      refine wpAnyH_ready (rs := [10]) (by kernel_rfl) (by simp) (AllReadyH.cons rfl (fun K hK => ?_) AllReadyH.nil)
      go_simp
      (with_reducible refine (clone_any _ f.A f.c f.l w2.drew (hF.heap_ (w' := w2.drew) rfl).dat.rd.1 (by omega)).mono ?_)
      rintro _ w3 ⟨A3, c3, rfl, hd3, hb3⟩
      have hbw3 : Below w2.heap.size w2 w3 := (Below.refl w2.heap.size w2).drew.trans hb3
      have hF3 := hF.keep (hbw3.block _ hF.bk.lt) (fun b q => hbw3.block b (hF.dlt q)) hbw3.size
      have s3 : w3.cell? ⟨D2, 0, none⟩ = some (.map (some st2.m)) ∧ w3.cell? ⟨f.g, 0, none⟩ = some (.slice f.A f.l.length f.c) ∧ w3.cell? ⟨f.g, 1, none⟩ = some (.int .i64 f.n) := ⟨(hO2.dsk.below hbw3).dsk.cell 0, hF3.bk.cell 0, hF3.bk.cell 1⟩
      refine hK _ _ s3 (fun hS => ?_)
      clear hK K
      try simp only [List.getElem_toArray, List.getElem_cons_zero, List.getElem_cons_succ, Act.put, List.setIfInBounds_toArray, List.set_cons_zero, List.set_cons_succ]
      refine wpAnyH_take (i := 15) (v := ?_) rfl (by kernel_rfl) (by kernel_rfl) (by kernel_rfl) (fun _ _ _ h => h) (Or.inl ⟨by rfl, ?_⟩) hS ?_
      rotate_left 1
      · intro w' hSw
        go_simp <;> with_reducible rfl
      try simp only [List.getElem_toArray, List.getElem_cons_zero, List.getElem_cons_succ, Act.put, List.setIfInBounds_toArray, List.set_cons_zero, List.set_cons_succ]
      refine wpAnyH_ready (rs := [16]) (by kernel_rfl) (by simp) (AllReadyH.cons rfl (fun K hK => ?_) AllReadyH.nil)
      go_simp
      have hbw4 : Below w2.heap.size w2 (w3.alloc (.cells #[.slice A3 f.l.length c3, .int .i64 f.n] 58)) := hbw3.alloc hbw3.size _
      have hG4 : Bk (w3.alloc (.cells #[.slice A3 f.l.length c3, .int .i64 f.n] 58)) w3.heap.size 58 [.slice A3 f.l.length c3, .int .i64 f.n] := Bk.new w3 _ [.slice A3 f.l.length c3, .int .i64 f.n]
      have hd4 : Dat (w3.alloc (.cells #[.slice A3 f.l.length c3, .int .i64 f.n] 58)) (fun b => w2.heap.size ≤ b) A3 c3 f.l := hd3.keep (fun b _ q => heap_alloc_old _ _ q) (by simp) (fun b q _ => q)
      have hF4 := hF.keep (hbw4.block _ hF.bk.lt) (fun b q => hbw4.block b (hF.dlt q)) hbw4.size
      have hO4 := hO2.below hbw4
      have hg4 := hbw3.size
      generalize w3.heap.size = g4 at *
      generalize w3.alloc (.cells #[.slice A3 f.l.length c3, .int .i64 f.n] 58) = w4 at *
      have s4 : w4.cell? ⟨D2, 0, none⟩ = some (.map (some st2.m)) ∧ w4.cell? ⟨f.g, 0, none⟩ = some (.slice f.A f.l.length f.c) ∧ w4.cell? ⟨f.g, 1, none⟩ = some (.int .i64 f.n) := ⟨hO4.dsk.dsk.cell 0, hF4.bk.cell 0, hF4.bk.cell 1⟩
      refine hK _ _ s4 (fun hS => ?_)
      clear hK K
      try simp only [List.getElem_toArray, List.getElem_cons_zero, List.getElem_cons_succ, Act.put, List.setIfInBounds_toArray, List.set_cons_zero, List.set_cons_succ]
      refine wpAnyH_ready (rs := [17]) (by kernel_rfl) (by simp) (AllReadyH.cons rfl (fun K hK => ?_) AllReadyH.nil)
      have hno4 : ∀ x ∈ st2.fs, x.s ≠ f.s := by
        intro x hx q
        have h1 : x.fe ∈ st2.fs.map DF.fe := List.mem_map.2 ⟨x, hx, rfl⟩
        have h2 := hC.perm.mem_iff.2 (hO2.perm.mem_iff.1 h1)
        obtain ⟨y, hy, q2⟩ := List.mem_map.1 h2
        exact hfresh y hy ((congrArg FE.s q2).trans q)
      obtain ⟨w5, hput, hmt, hm⟩ := hO4.put_new f.s (by have := hF.sl; omega) hno4 (.pointer (some ⟨g4, 0, none⟩)) w4 rfl
      obtain ⟨B5, st5, hC5⟩ := hC.put h hrw hI2 hf hC2 hO2 hfresh hb2 hle hbw4 hg4 hG4 hd4 hF hmt hm
      have hne : ∀ {k t cs}, Bk w4 k t cs → k ≠ st2.m := by
        rintro k t cs hk rfl
        obtain ⟨es', ck', q, _⟩ := hO4.dsk.map
        rw [hk] at q; cases q
      have s5 : w5.cell? ⟨D2, 0, none⟩ = some (.map (some st2.m)) ∧ w5.cell? ⟨f.g, 0, none⟩ = some (.slice f.A f.l.length f.c) ∧ w5.cell? ⟨f.g, 1, none⟩ = some (.int .i64 f.n) := ⟨(World.cell?_of_block (hmt.far D2 (hne hO4.dsk.dsk))).trans s4.1, (World.cell?_of_block (hmt.far f.g (hne hF4.bk))).trans s4.2.1, (World.cell?_of_block (hmt.far f.g (hne hF4.bk))).trans s4.2.2⟩
      refine step_upd (by rfl) 45 (.tmp 30) (.tmp 31) (.tmp 42) (by rfl) (by rfl) (by rfl) (by rfl) hput ?_
      refine hK _ _ s5 (fun hS => ?_)
      clear hK K
      try simp only [List.getElem_toArray, List.getElem_cons_zero, List.getElem_cons_succ, Act.put, List.setIfInBounds_toArray, List.set_cons_zero, List.set_cons_succ]
      refine wpAnyH_done (by kernel_rfl) ?_ _
      go_wp2_with fail
      go_roundg (gk - 1)
      case measure => omega
      case rel => exact ⟨_, _, _, _, _, hC5, by simp; omega⟩
end Go.Proofs.Ytcmbeolicopicaa

