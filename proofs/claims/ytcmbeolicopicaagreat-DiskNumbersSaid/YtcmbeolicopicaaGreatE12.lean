/- disk: the document's Remove. -/
import Derived.Test.YtcmbeolicopicaaGreatE11
namespace Go.Proofs.YtcmbeolicopicaaGreat
open Go.RowKit Go.Maps Go.ChangeMaps
set_option linter.unusedVariables false
set_option linter.unusedSectionVars false
set_option linter.unusedSimpArgs false
set_option maxRecDepth 100000

theorem owns_base {w : World} {base e size n : Nat} {v : Value} {xs : List Value} (h : w.ownsRow base e size v n xs) : w.ownsRow 0 e size v n xs := by
  refine ⟨h.1, ?_⟩
  rcases h.2 with h' | ⟨g, cap, cur, h', hb, h2⟩
  · exact .inl h'
  · exact .inr ⟨g, cap, cur, h', Nat.zero_le _, h2⟩
/-- A row was put anew, all other memory is as it was. -/
def Rmd (B : Nat → Prop) (X : Nat) (room : Int) (L : List FE) (n : Nat) (w w' : World) : Prop := RDB (fun k => (B k ∨ w.heap.size ≤ k) ∧ k < w'.heap.size) X room L n w' ∧ (∀ k, k < w.heap.size → k ≠ X → w'.heap[k]? = w.heap[k]?) ∧ Lv B w w'
theorem Rmd.did {B : Nat → Prop} {X n : Nat} {room : Int} {L : List FE} {w w' : World} (h : Rmd B X room L n w w') : RDid B X room L n w w' := ⟨_, fun k q => q.1, h.1, h.2.2⟩
section
variable {B : Nat → Prop} {X n : Nat} {room : Int} {P : List RF} {v : Value} {w : World} (h : RD B X room P n v w)
include h
theorem rremove_out (s : Nm) (e : fd (P.map RF.fe) s = none) : Calls Tryz.prog 32 #[.pointer (some ⟨X, 0, none⟩), nmV s] w fun e w' => e = .returned (.int .i64 6) ∧ ∃ q, w' = w.drewN q := by
  have hp := place_out h e
  clear h e
  unfold nmV at *
  go_enter Tryz.func32, Tryz.ntmps32
  go_wp2_with fail
  (with_reducible refine hp.mono ?_)
  rintro _ _ ⟨rfl, q, rfl⟩
  clear hp
  go_wp2_with fail
  go_ret
  exact ⟨rfl, _, rfl⟩
set_option maxHeartbeats 2000000 in
theorem rremove_x (s : Nm) {f : RF} (e : P[plc (P.map RF.fe) s]? = some f) (hs : f.s = s) : Calls Tryz.prog 32 #[.pointer (some ⟨X, 0, none⟩), nmV s] w fun e w' => e = .returned (.int .i64 0) ∧ Rmd B X room (delF (P.map RF.fe) s) n w w' := by
  have hpl : plc (P.map RF.fe) s < P.length := (List.getElem?_eq_some_iff.1 e).1
  have hmax : P.length ≤ 1000000 := Nat.le_trans h.few h.nn
  have hp := place_in h e hs
  have hdel : delF (P.map RF.fe) s = (P.take (plc (P.map RF.fe) s) ++ P.drop (plc (P.map RF.fe) s + 1)).map RF.fe := by
    rw [delF_at h.srt (g := f.fe) (by rw [← hs]; exact fd_mem h.srt.dis (List.mem_of_getElem? (fe_at e)))]
    simp
  obtain ⟨g, c, rfl, _, _, _, _⟩ := h.at_ e
  obtain ⟨_, c2, hvv, hlc, hcm, _, _⟩ := h.form
  injection hvv with hva _ hvv
  subst hvv hva
  obtain ⟨A', c', htl, htn, htc⟩ := h.tail rfl (i := plc (P.map RF.fe) s + 1) (by omega)
  have H := Lib.hid h
  have HTL := Lib.hid htl
  have HTC := Lib.hid htc
  have HTN := Lib.hid htn
  have HDL := Lib.hid hdel
  have hln := rfV_len P
  clear h e hs htl htc htn hdel
  obtain ⟨i0, hi, hz0, hz1, hz2⟩ := info_parts infoF
  unfold nmV at *
  go_enter Tryz.func32, Tryz.ntmps32
  go_wp2_with fail
  (with_reducible refine hp.mono ?_)
  rintro _ _ ⟨rfl, q, rfl⟩
  clear hp
  have hb1 : Below w.heap.size w (w.drewN q) := below_drewN (Below.refl _ _) q
  generalize hii : plc (P.map RF.fe) s = i at *
  clear hii
  generalize w.drewN q = W at *
  have hic : i ≤ c := by omega
  go_wp2_with fail
  have hb2 := hb1.drew
  refine wp_region_held_drew (S := fun w' => True) (by kernel_rfl) trivial (fun hS => ?_)
  have HB := Lib.hid hb2
  clear hb1 hb2
  generalize W.drew = WD at *
  have H2 := Lib.hid (H.out.below HB.out)
  have cX := H2.out.c0
  have HTA : Hid (A' = (if c = i + 1 then some ⟨g, 0, none⟩ else some ⟨g, (i + 1) * 3, none⟩) ∧ c' = c - (i + 1)) := Lib.hid ⟨by rw [HTL.out.1]; split <;> simp [Addr.add], HTL.out.2⟩
  have hw := IntWalk.i64_in ((i : Int) + 1) (by omega)
  have hw0 : (0 : Int) ≤ (i : Int) + 1 := by omega
  have hw1 : (i : Int) + 1 ≤ (P.length : Int) := by omega
  have hw2 : ((i : Int) + 1).toNat = i + 1 := by omega
  refine wpAnyH_take (i := 0) (v := ?_) rfl (by kernel_rfl) (by kernel_rfl) (by kernel_rfl) (fun _ _ _ h => h) (Or.inl ⟨by rfl, ?_⟩) hS ?_
  rotate_left 1
  · intro w' hSw
    go_simp <;> with_reducible rfl
  try simp only [List.getElem_toArray, List.getElem_cons_zero, List.getElem_cons_succ, Act.put, List.setIfInBounds_toArray, List.set_cons_zero, List.set_cons_succ]
  refine wpAnyH_take (i := 2) (v := ?_) rfl (by kernel_rfl) (by kernel_rfl) (by kernel_rfl) (fun _ _ _ h => h) (Or.inl ⟨by rfl, ?_⟩) hS ?_
  rotate_left 1
  · intro w' hSw
    go_simp <;> with_reducible rfl
  try simp only [List.getElem_toArray, List.getElem_cons_zero, List.getElem_cons_succ, Act.put, List.setIfInBounds_toArray, List.set_cons_zero, List.set_cons_succ]
  refine wpAnyH_take (i := 3) (v := ?_) rfl (by kernel_rfl) (by kernel_rfl) (by kernel_rfl) (fun _ _ _ h => h) (Or.inl ⟨by rfl, ?_⟩) hS ?_
  rotate_left 1
  · intro w' hSw
    go_simp <;> with_reducible rfl
  try simp only [List.getElem_toArray, List.getElem_cons_zero, List.getElem_cons_succ, Act.put, List.setIfInBounds_toArray, List.set_cons_zero, List.set_cons_succ]
  refine wpAnyH_take (i := 4) (v := ?_) rfl (by kernel_rfl) (by kernel_rfl) (by kernel_rfl) (fun _ _ _ h => h) (Or.inl ⟨by rfl, ?_⟩) hS ?_
  rotate_left 1
  · intro w' hSw
    go_simp <;> with_reducible rfl
  try simp only [List.getElem_toArray, List.getElem_cons_zero, List.getElem_cons_succ, Act.put, List.setIfInBounds_toArray, List.set_cons_zero, List.set_cons_succ]
  refine wpAnyH_take (i := 6) (v := ?_) rfl (by kernel_rfl) (by kernel_rfl) (by kernel_rfl) (fun _ _ _ h => h) (Or.inl ⟨by rfl, ?_⟩) hS ?_
  rotate_left 1
  · intro w' hSw
    go_simp <;> with_reducible rfl
  try simp only [List.getElem_toArray, List.getElem_cons_zero, List.getElem_cons_succ, Act.put, List.setIfInBounds_toArray, List.set_cons_zero, List.set_cons_succ]
  refine wpAnyH_take (i := 9) (v := ?_) rfl (by kernel_rfl) (by kernel_rfl) (by kernel_rfl) (fun _ _ _ h => h) (Or.inl ⟨by rfl, ?_⟩) hS ?_
  rotate_left 1
  · intro w' hSw
    go_simp <;> with_reducible rfl
  try simp only [List.getElem_toArray, List.getElem_cons_zero, List.getElem_cons_succ, Act.put, List.setIfInBounds_toArray, List.set_cons_zero, List.set_cons_succ]
  refine wpAnyH_take (i := 10) (v := ?_) rfl (by kernel_rfl) (by kernel_rfl) (by kernel_rfl) (fun _ _ _ h => h) (Or.inl ⟨by rfl, ?_⟩) hS ?_
  rotate_left 1
  · intro w' hSw
    go_simp <;> with_reducible rfl
  try simp only [List.getElem_toArray, List.getElem_cons_zero, List.getElem_cons_succ, Act.put, List.setIfInBounds_toArray, List.set_cons_zero, List.set_cons_succ]
  refine wpAnyH_take (i := 11) (v := ?_) rfl (by kernel_rfl) (by kernel_rfl) (by kernel_rfl) (fun _ _ _ h => h) (Or.inl ⟨by rfl, ?_⟩) hS ?_
  rotate_left 1
  · intro w' hSw
    go_simp <;> with_reducible rfl
  try simp only [List.getElem_toArray, List.getElem_cons_zero, List.getElem_cons_succ, Act.put, List.setIfInBounds_toArray, List.set_cons_zero, List.set_cons_succ]
  refine wpAnyH_take (i := 13) (v := ?_) rfl (by kernel_rfl) (by kernel_rfl) (by kernel_rfl) (fun _ _ _ h => h) (Or.inl ⟨by rfl, ?_⟩) hS ?_
  rotate_left 1
  · intro w' hSw
    go_simp <;> with_reducible rfl
  try simp only [List.getElem_toArray, List.getElem_cons_zero, List.getElem_cons_succ, Act.put, List.setIfInBounds_toArray, List.set_cons_zero, List.set_cons_succ]
  refine wpAnyH_take (i := 14) (v := ?_) rfl (by kernel_rfl) (by kernel_rfl) (by kernel_rfl) (fun _ _ _ h => h) (Or.inl ⟨by rfl, ?_⟩) hS ?_
  rotate_left 1
  · intro w' hSw
    go_simp <;> with_reducible rfl
  try simp only [List.getElem_toArray, List.getElem_cons_zero, List.getElem_cons_succ, Act.put, List.setIfInBounds_toArray, List.set_cons_zero, List.set_cons_succ]
  refine wpAnyH_ready (rs := [1, 5, 12]) (by kernel_rfl) (by simp) (AllReadyH.cons rfl (fun K hK => ?_) (AllReadyH.cons rfl (fun K hK => ?_) (AllReadyH.cons rfl (fun K hK => ?_) AllReadyH.nil)))
  · go_simp
    have hb8 : Below WD.heap.size WD (WD.alloc (.cells #[] 67)) := (Below.refl _ _).alloc (Nat.le_refl _) _
    have hown := owns_new0 WD WD.heap.size 67 3 (Nat.le_refl _)
    have h8 := H2.out.below hb8
    refine hK _ _ trivial (fun hS => ?_)
    clear hK K
    have cX8 := h8.c0
    have hns : (WD.alloc (.cells #[] 67)).heap.size = WD.heap.size + 1 := by simp
    generalize (WD.alloc (.cells #[] 67)) = W8 at *
    try simp only [List.getElem_toArray, List.getElem_cons_zero, List.getElem_cons_succ, Act.put, List.setIfInBounds_toArray, List.set_cons_zero, List.set_cons_succ]
    refine wpAnyH_ready (rs := [5, 12]) (by kernel_rfl) (by simp) (AllReadyH.cons rfl (fun K hK => ?_) (AllReadyH.cons rfl (fun K hK => ?_) AllReadyH.nil))
    · go_simp
      refine hK _ _ trivial (fun hS => ?_)
      clear hK K
      try simp only [List.getElem_toArray, List.getElem_cons_zero, List.getElem_cons_succ, Act.put, List.setIfInBounds_toArray, List.set_cons_zero, List.set_cons_succ]
      refine wpAnyH_take (i := 7) (v := ?_) rfl (by kernel_rfl) (by kernel_rfl) (by kernel_rfl) (fun _ _ _ h => h) (Or.inl ⟨by rfl, ?_⟩) hS ?_
      rotate_left 1
      · intro w' hSw
        go_simp <;> with_reducible rfl
      try simp only [List.getElem_toArray, List.getElem_cons_zero, List.getElem_cons_succ, Act.put, List.setIfInBounds_toArray, List.set_cons_zero, List.set_cons_succ]
      refine wpAnyH_ready (rs := [8, 12]) (by kernel_rfl) (by simp) (AllReadyH.cons rfl (fun K hK => ?_) (AllReadyH.cons rfl (fun K hK => ?_) AllReadyH.nil))
      · have h8 := H2.out.below hb8
        refine step_append_ownA (by rfl) (.tmp 16) (.tmp 22) 51 (by rfl) WD.heap.size 67 i0 _ 3 48 Tryz.underlying51 hi hz0 hz1 hz2 rfl (by decide) _ 0 [] (by rfl) hown (some ⟨g, 0, none⟩) i c ((rfV P).take (i * 3)) (by rfl) (by rw [List.length_take, hln]; omega) (fun e => by cases e) (fun ad e j u hu => owns_cells (owns_cut h8.row (Nat.le_of_lt hpl)) ad e j u hu) (fun u hu => rfV_one P u (List.mem_of_mem_take hu)) (by unfold maxLen; omega) (by omega) (by omega) ?_
        intro v9 W9 hr9 hg9
        rw [Nat.zero_add, List.nil_append] at hr9
        have hb9 : Below WD.heap.size WD W9 := hb8.trans (grown_below hg9 (fun g e => Nat.le_of_eq (Option.some.inj e)) (by omega))
        have cX9 := (H2.out.below hb9).c0
        refine hK _ _ trivial (fun hS => ?_)
        clear hK K hg9 h8
        try simp only [List.getElem_toArray, List.getElem_cons_zero, List.getElem_cons_succ, Act.put, List.setIfInBounds_toArray, List.set_cons_zero, List.set_cons_succ]
        refine wpAnyH_ready (rs := [12]) (by kernel_rfl) (by simp) (AllReadyH.cons rfl (fun K hK => ?_) AllReadyH.nil)
        go_simp
        refine hK _ _ trivial (fun hS => ?_)
        clear hK K
        try simp only [List.getElem_toArray, List.getElem_cons_zero, List.getElem_cons_succ, Act.put, List.setIfInBounds_toArray, List.set_cons_zero, List.set_cons_succ]
        refine wpAnyH_take (i := 15) (v := ?_) rfl (by kernel_rfl) (by kernel_rfl) (by kernel_rfl) (fun _ _ _ h => h) (Or.inl ⟨by rfl, ?_⟩) hS ?_
        rotate_left 1
        · intro w' hSw
          go_simp
          rw [← HTA.out.1, ← HTA.out.2]
        try simp only [List.getElem_toArray, List.getElem_cons_zero, List.getElem_cons_succ, Act.put, List.setIfInBounds_toArray, List.set_cons_zero, List.set_cons_succ]
        refine wpAnyH_ready (rs := [16]) (by kernel_rfl) (by simp) (AllReadyH.cons rfl (fun K hK => ?_) AllReadyH.nil)
        refine step_append_ownA (by rfl) (.tmp 23) (.tmp 30) 51 (by rfl) WD.heap.size 67 i0 _ 3 48 Tryz.underlying51 hi hz0 hz1 hz2 rfl (by decide) v9 i ((rfV P).take (i * 3)) (by rfl) hr9 A' (P.length - (i + 1)) c' ((rfV P).drop ((i + 1) * 3)) (by rfl) (by rw [List.length_drop, hln]; omega) HTN.out (HTC.out W9 (fun k e => (hb9.block k (Nat.lt_of_lt_of_le (H.out.lt k (H.out.own k e)) HB.out.size)).trans (HB.out.block k (H.out.lt k (H.out.own k e))))) (fun u hu => rfV_one P u (List.mem_of_mem_drop hu)) (by unfold maxLen; omega) (by omega) hb9.size ?_
        intro v11 W11 hr11 hg11
        have hb11 : Below WD.heap.size WD W11 := hb9.trans (grown_below hg11 (fun k e => (owns_block hr9 k e).1) hb9.size)
        have hbw : Below w.heap.size w W11 := HB.out.trans (hb11.mono HB.out.size)
        have hP : rfV (P.take i ++ P.drop (i + 1)) = (rfV P).take (i * 3) ++ (rfV P).drop ((i + 1) * 3) := by rw [rfV_app, rfV_take _ _ (by omega), rfV_drop _ _ (by omega)]
        have hPl : (P.take i ++ P.drop (i + 1)).length = i + (P.length - (i + 1)) := by simp; omega
        obtain ⟨A11, c11, rfl⟩ := owns_form hr11
        have hr0 := hr11
        rw [← hP, ← hPl] at hr11
        have hmem : ∀ x ∈ P.take i ++ P.drop (i + 1), x ∈ P := fun x hx => (List.mem_append.1 hx).elim List.mem_of_mem_take List.mem_of_mem_drop
        have hfar : ∀ k, k < w.heap.size → (Value.slice (some ⟨g, 0, none⟩) P.length c).ownBlock ≠ some k → W11.heap[k]? = w.heap[k]? := fun k k1 _ => hbw.block k k1
        have hfd := H.out.far hfar hbw.size
        have hfin := H.out.resetB (n' := n) (owns_base hr11) (fun k e => .inr (Nat.le_trans HB.out.size (owns_block hr11 k e).1)) hfar hbw.size ⟨hbw.os, hbw.tape, hbw.output⟩ (fun x hx => hfd x (hmem x hx)) (by rw [← HDL.out]; exact srt_delF H.out.srt s) (fun x hx => H.out.len x (hmem x hx)) (by rw [hPl]; have := H.out.few; omega) H.out.nn
        rw [← HDL.out, hPl] at hfin
        have HF : Hid (Rmd B X room (delF (P.map RF.fe) s) n w (W11.setCell ⟨X, 0, none⟩ (.slice A11 (i + (P.length - (i + 1))) c11))) := Lib.hid ⟨hfin.1, fun k k1 k2 => (Below.heap_setCell W11 _ _ k k2).trans (hbw.block k k1), hfin.2⟩
        have h11 := H2.out.below hb11
        have cX11 := h11.c0
        have zX11 := h11.bk.frozen 0
        refine hK _ _ trivial (fun hS => ?_)
        clear hK K hg11 hfin hfd hfar hmem hPl hP hbw h11 hr11 hr0
        try simp only [List.getElem_toArray, List.getElem_cons_zero, List.getElem_cons_succ, Act.put, List.setIfInBounds_toArray, List.set_cons_zero, List.set_cons_succ]
        refine wpAnyH_take (i := 17) (v := ?_) rfl (by kernel_rfl) (by kernel_rfl) (by kernel_rfl) (fun _ _ _ h => h) (Or.inl ⟨by rfl, ?_⟩) hS ?_
        rotate_left 1
        · intro w' hSw
          go_simp <;> with_reducible rfl
        try simp only [List.getElem_toArray, List.getElem_cons_zero, List.getElem_cons_succ, Act.put, List.setIfInBounds_toArray, List.set_cons_zero, List.set_cons_succ]
        refine wpAnyH_take (i := 18) (v := ?_) rfl (by kernel_rfl) (by kernel_rfl) (by kernel_rfl) (fun _ _ _ h => h) (Or.inl ⟨by rfl, ?_⟩) hS ?_
        rotate_left 1
        · intro w' hSw
          go_simp <;> with_reducible rfl
        try simp only [List.getElem_toArray, List.getElem_cons_zero, List.getElem_cons_succ, Act.put, List.setIfInBounds_toArray, List.set_cons_zero, List.set_cons_succ]
        refine wpAnyH_ready (rs := [19]) (by kernel_rfl) (by simp) (AllReadyH.cons rfl (fun K hK => ?_) AllReadyH.nil)
        go_simp
        refine hK _ _ trivial (fun hS => ?_)
        clear hK K
        try simp only [List.getElem_toArray, List.getElem_cons_zero, List.getElem_cons_succ, Act.put, List.setIfInBounds_toArray, List.set_cons_zero, List.set_cons_succ]
        refine wpAnyH_done (by kernel_rfl) ?_ _
        clear hw
        go_wp2_with fail
        go_ret
        exact ⟨rfl, HF.out⟩
      · go_simp
        refine hK _ _ trivial (fun hS => ?_)
        clear hK K
        try simp only [List.getElem_toArray, List.getElem_cons_zero, List.getElem_cons_succ, Act.put, List.setIfInBounds_toArray, List.set_cons_zero, List.set_cons_succ]
        refine wpAnyH_take (i := 15) (v := ?_) rfl (by kernel_rfl) (by kernel_rfl) (by kernel_rfl) (fun _ _ _ h => h) (Or.inl ⟨by rfl, ?_⟩) hS ?_
        rotate_left 1
        · intro w' hSw
          go_simp
          rw [← HTA.out.1, ← HTA.out.2]
        try simp only [List.getElem_toArray, List.getElem_cons_zero, List.getElem_cons_succ, Act.put, List.setIfInBounds_toArray, List.set_cons_zero, List.set_cons_succ]
        refine wpAnyH_ready (rs := [8]) (by kernel_rfl) (by simp) (AllReadyH.cons rfl (fun K hK => ?_) AllReadyH.nil)
        have h8 := H2.out.below hb8
        refine step_append_ownA (by rfl) (.tmp 16) (.tmp 22) 51 (by rfl) WD.heap.size 67 i0 _ 3 48 Tryz.underlying51 hi hz0 hz1 hz2 rfl (by decide) _ 0 [] (by rfl) hown (some ⟨g, 0, none⟩) i c ((rfV P).take (i * 3)) (by rfl) (by rw [List.length_take, hln]; omega) (fun e => by cases e) (fun ad e j u hu => owns_cells (owns_cut h8.row (Nat.le_of_lt hpl)) ad e j u hu) (fun u hu => rfV_one P u (List.mem_of_mem_take hu)) (by unfold maxLen; omega) (by omega) (by omega) ?_
        intro v9 W9 hr9 hg9
        rw [Nat.zero_add, List.nil_append] at hr9
        have hb9 : Below WD.heap.size WD W9 := hb8.trans (grown_below hg9 (fun g e => Nat.le_of_eq (Option.some.inj e)) (by omega))
        have cX9 := (H2.out.below hb9).c0
        refine hK _ _ trivial (fun hS => ?_)
        clear hK K hg9 h8
        try simp only [List.getElem_toArray, List.getElem_cons_zero, List.getElem_cons_succ, Act.put, List.setIfInBounds_toArray, List.set_cons_zero, List.set_cons_succ]
        refine wpAnyH_ready (rs := [16]) (by kernel_rfl) (by simp) (AllReadyH.cons rfl (fun K hK => ?_) AllReadyH.nil)
        refine step_append_ownA (by rfl) (.tmp 23) (.tmp 30) 51 (by rfl) WD.heap.size 67 i0 _ 3 48 Tryz.underlying51 hi hz0 hz1 hz2 rfl (by decide) v9 i ((rfV P).take (i * 3)) (by rfl) hr9 A' (P.length - (i + 1)) c' ((rfV P).drop ((i + 1) * 3)) (by rfl) (by rw [List.length_drop, hln]; omega) HTN.out (HTC.out W9 (fun k e => (hb9.block k (Nat.lt_of_lt_of_le (H.out.lt k (H.out.own k e)) HB.out.size)).trans (HB.out.block k (H.out.lt k (H.out.own k e))))) (fun u hu => rfV_one P u (List.mem_of_mem_drop hu)) (by unfold maxLen; omega) (by omega) hb9.size ?_
        intro v11 W11 hr11 hg11
        have hb11 : Below WD.heap.size WD W11 := hb9.trans (grown_below hg11 (fun k e => (owns_block hr9 k e).1) hb9.size)
        have hbw : Below w.heap.size w W11 := HB.out.trans (hb11.mono HB.out.size)
        have hP : rfV (P.take i ++ P.drop (i + 1)) = (rfV P).take (i * 3) ++ (rfV P).drop ((i + 1) * 3) := by rw [rfV_app, rfV_take _ _ (by omega), rfV_drop _ _ (by omega)]
        have hPl : (P.take i ++ P.drop (i + 1)).length = i + (P.length - (i + 1)) := by simp; omega
        obtain ⟨A11, c11, rfl⟩ := owns_form hr11
        have hr0 := hr11
        rw [← hP, ← hPl] at hr11
        have hmem : ∀ x ∈ P.take i ++ P.drop (i + 1), x ∈ P := fun x hx => (List.mem_append.1 hx).elim List.mem_of_mem_take List.mem_of_mem_drop
        have hfar : ∀ k, k < w.heap.size → (Value.slice (some ⟨g, 0, none⟩) P.length c).ownBlock ≠ some k → W11.heap[k]? = w.heap[k]? := fun k k1 _ => hbw.block k k1
        have hfd := H.out.far hfar hbw.size
        have hfin := H.out.resetB (n' := n) (owns_base hr11) (fun k e => .inr (Nat.le_trans HB.out.size (owns_block hr11 k e).1)) hfar hbw.size ⟨hbw.os, hbw.tape, hbw.output⟩ (fun x hx => hfd x (hmem x hx)) (by rw [← HDL.out]; exact srt_delF H.out.srt s) (fun x hx => H.out.len x (hmem x hx)) (by rw [hPl]; have := H.out.few; omega) H.out.nn
        rw [← HDL.out, hPl] at hfin
        have HF : Hid (Rmd B X room (delF (P.map RF.fe) s) n w (W11.setCell ⟨X, 0, none⟩ (.slice A11 (i + (P.length - (i + 1))) c11))) := Lib.hid ⟨hfin.1, fun k k1 k2 => (Below.heap_setCell W11 _ _ k k2).trans (hbw.block k k1), hfin.2⟩
        have h11 := H2.out.below hb11
        have cX11 := h11.c0
        have zX11 := h11.bk.frozen 0
        refine hK _ _ trivial (fun hS => ?_)
        clear hK K hg11 hfin hfd hfar hmem hPl hP hbw h11 hr11 hr0
        try simp only [List.getElem_toArray, List.getElem_cons_zero, List.getElem_cons_succ, Act.put, List.setIfInBounds_toArray, List.set_cons_zero, List.set_cons_succ]
        refine wpAnyH_take (i := 17) (v := ?_) rfl (by kernel_rfl) (by kernel_rfl) (by kernel_rfl) (fun _ _ _ h => h) (Or.inl ⟨by rfl, ?_⟩) hS ?_
        rotate_left 1
        · intro w' hSw
          go_simp <;> with_reducible rfl
        try simp only [List.getElem_toArray, List.getElem_cons_zero, List.getElem_cons_succ, Act.put, List.setIfInBounds_toArray, List.set_cons_zero, List.set_cons_succ]
        refine wpAnyH_take (i := 18) (v := ?_) rfl (by kernel_rfl) (by kernel_rfl) (by kernel_rfl) (fun _ _ _ h => h) (Or.inl ⟨by rfl, ?_⟩) hS ?_
        rotate_left 1
        · intro w' hSw
          go_simp <;> with_reducible rfl
        try simp only [List.getElem_toArray, List.getElem_cons_zero, List.getElem_cons_succ, Act.put, List.setIfInBounds_toArray, List.set_cons_zero, List.set_cons_succ]
        refine wpAnyH_ready (rs := [19]) (by kernel_rfl) (by simp) (AllReadyH.cons rfl (fun K hK => ?_) AllReadyH.nil)
        go_simp
        refine hK _ _ trivial (fun hS => ?_)
        clear hK K
        try simp only [List.getElem_toArray, List.getElem_cons_zero, List.getElem_cons_succ, Act.put, List.setIfInBounds_toArray, List.set_cons_zero, List.set_cons_succ]
        refine wpAnyH_done (by kernel_rfl) ?_ _
        clear hw
        go_wp2_with fail
        go_ret
        exact ⟨rfl, HF.out⟩
    · go_simp
      refine hK _ _ trivial (fun hS => ?_)
      clear hK K
      try simp only [List.getElem_toArray, List.getElem_cons_zero, List.getElem_cons_succ, Act.put, List.setIfInBounds_toArray, List.set_cons_zero, List.set_cons_succ]
      refine wpAnyH_take (i := 15) (v := ?_) rfl (by kernel_rfl) (by kernel_rfl) (by kernel_rfl) (fun _ _ _ h => h) (Or.inl ⟨by rfl, ?_⟩) hS ?_
      rotate_left 1
      · intro w' hSw
        go_simp
        rw [← HTA.out.1, ← HTA.out.2]
      try simp only [List.getElem_toArray, List.getElem_cons_zero, List.getElem_cons_succ, Act.put, List.setIfInBounds_toArray, List.set_cons_zero, List.set_cons_succ]
      refine wpAnyH_ready (rs := [5]) (by kernel_rfl) (by simp) (AllReadyH.cons rfl (fun K hK => ?_) AllReadyH.nil)
      go_simp
      refine hK _ _ trivial (fun hS => ?_)
      clear hK K
      try simp only [List.getElem_toArray, List.getElem_cons_zero, List.getElem_cons_succ, Act.put, List.setIfInBounds_toArray, List.set_cons_zero, List.set_cons_succ]
      refine wpAnyH_take (i := 7) (v := ?_) rfl (by kernel_rfl) (by kernel_rfl) (by kernel_rfl) (fun _ _ _ h => h) (Or.inl ⟨by rfl, ?_⟩) hS ?_
      rotate_left 1
      · intro w' hSw
        go_simp <;> with_reducible rfl
      try simp only [List.getElem_toArray, List.getElem_cons_zero, List.getElem_cons_succ, Act.put, List.setIfInBounds_toArray, List.set_cons_zero, List.set_cons_succ]
      refine wpAnyH_ready (rs := [8]) (by kernel_rfl) (by simp) (AllReadyH.cons rfl (fun K hK => ?_) AllReadyH.nil)
      have h8 := H2.out.below hb8
      refine step_append_ownA (by rfl) (.tmp 16) (.tmp 22) 51 (by rfl) WD.heap.size 67 i0 _ 3 48 Tryz.underlying51 hi hz0 hz1 hz2 rfl (by decide) _ 0 [] (by rfl) hown (some ⟨g, 0, none⟩) i c ((rfV P).take (i * 3)) (by rfl) (by rw [List.length_take, hln]; omega) (fun e => by cases e) (fun ad e j u hu => owns_cells (owns_cut h8.row (Nat.le_of_lt hpl)) ad e j u hu) (fun u hu => rfV_one P u (List.mem_of_mem_take hu)) (by unfold maxLen; omega) (by omega) (by omega) ?_
      intro v9 W9 hr9 hg9
      rw [Nat.zero_add, List.nil_append] at hr9
      have hb9 : Below WD.heap.size WD W9 := hb8.trans (grown_below hg9 (fun g e => Nat.le_of_eq (Option.some.inj e)) (by omega))
      have cX9 := (H2.out.below hb9).c0
      refine hK _ _ trivial (fun hS => ?_)
      clear hK K hg9 h8
      try simp only [List.getElem_toArray, List.getElem_cons_zero, List.getElem_cons_succ, Act.put, List.setIfInBounds_toArray, List.set_cons_zero, List.set_cons_succ]
      refine wpAnyH_ready (rs := [16]) (by kernel_rfl) (by simp) (AllReadyH.cons rfl (fun K hK => ?_) AllReadyH.nil)
      refine step_append_ownA (by rfl) (.tmp 23) (.tmp 30) 51 (by rfl) WD.heap.size 67 i0 _ 3 48 Tryz.underlying51 hi hz0 hz1 hz2 rfl (by decide) v9 i ((rfV P).take (i * 3)) (by rfl) hr9 A' (P.length - (i + 1)) c' ((rfV P).drop ((i + 1) * 3)) (by rfl) (by rw [List.length_drop, hln]; omega) HTN.out (HTC.out W9 (fun k e => (hb9.block k (Nat.lt_of_lt_of_le (H.out.lt k (H.out.own k e)) HB.out.size)).trans (HB.out.block k (H.out.lt k (H.out.own k e))))) (fun u hu => rfV_one P u (List.mem_of_mem_drop hu)) (by unfold maxLen; omega) (by omega) hb9.size ?_
      intro v11 W11 hr11 hg11
      have hb11 : Below WD.heap.size WD W11 := hb9.trans (grown_below hg11 (fun k e => (owns_block hr9 k e).1) hb9.size)
      have hbw : Below w.heap.size w W11 := HB.out.trans (hb11.mono HB.out.size)
      have hP : rfV (P.take i ++ P.drop (i + 1)) = (rfV P).take (i * 3) ++ (rfV P).drop ((i + 1) * 3) := by rw [rfV_app, rfV_take _ _ (by omega), rfV_drop _ _ (by omega)]
      have hPl : (P.take i ++ P.drop (i + 1)).length = i + (P.length - (i + 1)) := by simp; omega
      obtain ⟨A11, c11, rfl⟩ := owns_form hr11
      have hr0 := hr11
      rw [← hP, ← hPl] at hr11
      have hmem : ∀ x ∈ P.take i ++ P.drop (i + 1), x ∈ P := fun x hx => (List.mem_append.1 hx).elim List.mem_of_mem_take List.mem_of_mem_drop
      have hfar : ∀ k, k < w.heap.size → (Value.slice (some ⟨g, 0, none⟩) P.length c).ownBlock ≠ some k → W11.heap[k]? = w.heap[k]? := fun k k1 _ => hbw.block k k1
      have hfd := H.out.far hfar hbw.size
      have hfin := H.out.resetB (n' := n) (owns_base hr11) (fun k e => .inr (Nat.le_trans HB.out.size (owns_block hr11 k e).1)) hfar hbw.size ⟨hbw.os, hbw.tape, hbw.output⟩ (fun x hx => hfd x (hmem x hx)) (by rw [← HDL.out]; exact srt_delF H.out.srt s) (fun x hx => H.out.len x (hmem x hx)) (by rw [hPl]; have := H.out.few; omega) H.out.nn
      rw [← HDL.out, hPl] at hfin
      have HF : Hid (Rmd B X room (delF (P.map RF.fe) s) n w (W11.setCell ⟨X, 0, none⟩ (.slice A11 (i + (P.length - (i + 1))) c11))) := Lib.hid ⟨hfin.1, fun k k1 k2 => (Below.heap_setCell W11 _ _ k k2).trans (hbw.block k k1), hfin.2⟩
      have h11 := H2.out.below hb11
      have cX11 := h11.c0
      have zX11 := h11.bk.frozen 0
      refine hK _ _ trivial (fun hS => ?_)
      clear hK K hg11 hfin hfd hfar hmem hPl hP hbw h11 hr11 hr0
      try simp only [List.getElem_toArray, List.getElem_cons_zero, List.getElem_cons_succ, Act.put, List.setIfInBounds_toArray, List.set_cons_zero, List.set_cons_succ]
      refine wpAnyH_take (i := 17) (v := ?_) rfl (by kernel_rfl) (by kernel_rfl) (by kernel_rfl) (fun _ _ _ h => h) (Or.inl ⟨by rfl, ?_⟩) hS ?_
      rotate_left 1
      · intro w' hSw
        go_simp <;> with_reducible rfl
      try simp only [List.getElem_toArray, List.getElem_cons_zero, List.getElem_cons_succ, Act.put, List.setIfInBounds_toArray, List.set_cons_zero, List.set_cons_succ]
      refine wpAnyH_take (i := 18) (v := ?_) rfl (by kernel_rfl) (by kernel_rfl) (by kernel_rfl) (fun _ _ _ h => h) (Or.inl ⟨by rfl, ?_⟩) hS ?_
      rotate_left 1
      · intro w' hSw
        go_simp <;> with_reducible rfl
      try simp only [List.getElem_toArray, List.getElem_cons_zero, List.getElem_cons_succ, Act.put, List.setIfInBounds_toArray, List.set_cons_zero, List.set_cons_succ]
      refine wpAnyH_ready (rs := [19]) (by kernel_rfl) (by simp) (AllReadyH.cons rfl (fun K hK => ?_) AllReadyH.nil)
      go_simp
      refine hK _ _ trivial (fun hS => ?_)
      clear hK K
      try simp only [List.getElem_toArray, List.getElem_cons_zero, List.getElem_cons_succ, Act.put, List.setIfInBounds_toArray, List.set_cons_zero, List.set_cons_succ]
      refine wpAnyH_done (by kernel_rfl) ?_ _
      clear hw
      go_wp2_with fail
      go_ret
      exact ⟨rfl, HF.out⟩
  · go_simp
    refine hK _ _ trivial (fun hS => ?_)
    clear hK K
    try simp only [List.getElem_toArray, List.getElem_cons_zero, List.getElem_cons_succ, Act.put, List.setIfInBounds_toArray, List.set_cons_zero, List.set_cons_succ]
    refine wpAnyH_take (i := 7) (v := ?_) rfl (by kernel_rfl) (by kernel_rfl) (by kernel_rfl) (fun _ _ _ h => h) (Or.inl ⟨by rfl, ?_⟩) hS ?_
    rotate_left 1
    · intro w' hSw
      go_simp <;> with_reducible rfl
    try simp only [List.getElem_toArray, List.getElem_cons_zero, List.getElem_cons_succ, Act.put, List.setIfInBounds_toArray, List.set_cons_zero, List.set_cons_succ]
    refine wpAnyH_ready (rs := [1, 12]) (by kernel_rfl) (by simp) (AllReadyH.cons rfl (fun K hK => ?_) (AllReadyH.cons rfl (fun K hK => ?_) AllReadyH.nil))
    · go_simp
      have hb8 : Below WD.heap.size WD (WD.alloc (.cells #[] 67)) := (Below.refl _ _).alloc (Nat.le_refl _) _
      have hown := owns_new0 WD WD.heap.size 67 3 (Nat.le_refl _)
      have h8 := H2.out.below hb8
      refine hK _ _ trivial (fun hS => ?_)
      clear hK K
      have cX8 := h8.c0
      have hns : (WD.alloc (.cells #[] 67)).heap.size = WD.heap.size + 1 := by simp
      generalize (WD.alloc (.cells #[] 67)) = W8 at *
      try simp only [List.getElem_toArray, List.getElem_cons_zero, List.getElem_cons_succ, Act.put, List.setIfInBounds_toArray, List.set_cons_zero, List.set_cons_succ]
      refine wpAnyH_ready (rs := [8, 12]) (by kernel_rfl) (by simp) (AllReadyH.cons rfl (fun K hK => ?_) (AllReadyH.cons rfl (fun K hK => ?_) AllReadyH.nil))
      · have h8 := H2.out.below hb8
        refine step_append_ownA (by rfl) (.tmp 16) (.tmp 22) 51 (by rfl) WD.heap.size 67 i0 _ 3 48 Tryz.underlying51 hi hz0 hz1 hz2 rfl (by decide) _ 0 [] (by rfl) hown (some ⟨g, 0, none⟩) i c ((rfV P).take (i * 3)) (by rfl) (by rw [List.length_take, hln]; omega) (fun e => by cases e) (fun ad e j u hu => owns_cells (owns_cut h8.row (Nat.le_of_lt hpl)) ad e j u hu) (fun u hu => rfV_one P u (List.mem_of_mem_take hu)) (by unfold maxLen; omega) (by omega) (by omega) ?_
        intro v9 W9 hr9 hg9
        rw [Nat.zero_add, List.nil_append] at hr9
        have hb9 : Below WD.heap.size WD W9 := hb8.trans (grown_below hg9 (fun g e => Nat.le_of_eq (Option.some.inj e)) (by omega))
        have cX9 := (H2.out.below hb9).c0
        refine hK _ _ trivial (fun hS => ?_)
        clear hK K hg9 h8
        try simp only [List.getElem_toArray, List.getElem_cons_zero, List.getElem_cons_succ, Act.put, List.setIfInBounds_toArray, List.set_cons_zero, List.set_cons_succ]
        refine wpAnyH_ready (rs := [12]) (by kernel_rfl) (by simp) (AllReadyH.cons rfl (fun K hK => ?_) AllReadyH.nil)
        go_simp
        refine hK _ _ trivial (fun hS => ?_)
        clear hK K
        try simp only [List.getElem_toArray, List.getElem_cons_zero, List.getElem_cons_succ, Act.put, List.setIfInBounds_toArray, List.set_cons_zero, List.set_cons_succ]
        refine wpAnyH_take (i := 15) (v := ?_) rfl (by kernel_rfl) (by kernel_rfl) (by kernel_rfl) (fun _ _ _ h => h) (Or.inl ⟨by rfl, ?_⟩) hS ?_
        rotate_left 1
        · intro w' hSw
          go_simp
          rw [← HTA.out.1, ← HTA.out.2]
        try simp only [List.getElem_toArray, List.getElem_cons_zero, List.getElem_cons_succ, Act.put, List.setIfInBounds_toArray, List.set_cons_zero, List.set_cons_succ]
        refine wpAnyH_ready (rs := [16]) (by kernel_rfl) (by simp) (AllReadyH.cons rfl (fun K hK => ?_) AllReadyH.nil)
        refine step_append_ownA (by rfl) (.tmp 23) (.tmp 30) 51 (by rfl) WD.heap.size 67 i0 _ 3 48 Tryz.underlying51 hi hz0 hz1 hz2 rfl (by decide) v9 i ((rfV P).take (i * 3)) (by rfl) hr9 A' (P.length - (i + 1)) c' ((rfV P).drop ((i + 1) * 3)) (by rfl) (by rw [List.length_drop, hln]; omega) HTN.out (HTC.out W9 (fun k e => (hb9.block k (Nat.lt_of_lt_of_le (H.out.lt k (H.out.own k e)) HB.out.size)).trans (HB.out.block k (H.out.lt k (H.out.own k e))))) (fun u hu => rfV_one P u (List.mem_of_mem_drop hu)) (by unfold maxLen; omega) (by omega) hb9.size ?_
        intro v11 W11 hr11 hg11
        have hb11 : Below WD.heap.size WD W11 := hb9.trans (grown_below hg11 (fun k e => (owns_block hr9 k e).1) hb9.size)
        have hbw : Below w.heap.size w W11 := HB.out.trans (hb11.mono HB.out.size)
        have hP : rfV (P.take i ++ P.drop (i + 1)) = (rfV P).take (i * 3) ++ (rfV P).drop ((i + 1) * 3) := by rw [rfV_app, rfV_take _ _ (by omega), rfV_drop _ _ (by omega)]
        have hPl : (P.take i ++ P.drop (i + 1)).length = i + (P.length - (i + 1)) := by simp; omega
        obtain ⟨A11, c11, rfl⟩ := owns_form hr11
        have hr0 := hr11
        rw [← hP, ← hPl] at hr11
        have hmem : ∀ x ∈ P.take i ++ P.drop (i + 1), x ∈ P := fun x hx => (List.mem_append.1 hx).elim List.mem_of_mem_take List.mem_of_mem_drop
        have hfar : ∀ k, k < w.heap.size → (Value.slice (some ⟨g, 0, none⟩) P.length c).ownBlock ≠ some k → W11.heap[k]? = w.heap[k]? := fun k k1 _ => hbw.block k k1
        have hfd := H.out.far hfar hbw.size
        have hfin := H.out.resetB (n' := n) (owns_base hr11) (fun k e => .inr (Nat.le_trans HB.out.size (owns_block hr11 k e).1)) hfar hbw.size ⟨hbw.os, hbw.tape, hbw.output⟩ (fun x hx => hfd x (hmem x hx)) (by rw [← HDL.out]; exact srt_delF H.out.srt s) (fun x hx => H.out.len x (hmem x hx)) (by rw [hPl]; have := H.out.few; omega) H.out.nn
        rw [← HDL.out, hPl] at hfin
        have HF : Hid (Rmd B X room (delF (P.map RF.fe) s) n w (W11.setCell ⟨X, 0, none⟩ (.slice A11 (i + (P.length - (i + 1))) c11))) := Lib.hid ⟨hfin.1, fun k k1 k2 => (Below.heap_setCell W11 _ _ k k2).trans (hbw.block k k1), hfin.2⟩
        have h11 := H2.out.below hb11
        have cX11 := h11.c0
        have zX11 := h11.bk.frozen 0
        refine hK _ _ trivial (fun hS => ?_)
        clear hK K hg11 hfin hfd hfar hmem hPl hP hbw h11 hr11 hr0
        try simp only [List.getElem_toArray, List.getElem_cons_zero, List.getElem_cons_succ, Act.put, List.setIfInBounds_toArray, List.set_cons_zero, List.set_cons_succ]
        refine wpAnyH_take (i := 17) (v := ?_) rfl (by kernel_rfl) (by kernel_rfl) (by kernel_rfl) (fun _ _ _ h => h) (Or.inl ⟨by rfl, ?_⟩) hS ?_
        rotate_left 1
        · intro w' hSw
          go_simp <;> with_reducible rfl
        try simp only [List.getElem_toArray, List.getElem_cons_zero, List.getElem_cons_succ, Act.put, List.setIfInBounds_toArray, List.set_cons_zero, List.set_cons_succ]
        refine wpAnyH_take (i := 18) (v := ?_) rfl (by kernel_rfl) (by kernel_rfl) (by kernel_rfl) (fun _ _ _ h => h) (Or.inl ⟨by rfl, ?_⟩) hS ?_
        rotate_left 1
        · intro w' hSw
          go_simp <;> with_reducible rfl
        try simp only [List.getElem_toArray, List.getElem_cons_zero, List.getElem_cons_succ, Act.put, List.setIfInBounds_toArray, List.set_cons_zero, List.set_cons_succ]
        refine wpAnyH_ready (rs := [19]) (by kernel_rfl) (by simp) (AllReadyH.cons rfl (fun K hK => ?_) AllReadyH.nil)
        go_simp
        refine hK _ _ trivial (fun hS => ?_)
        clear hK K
        try simp only [List.getElem_toArray, List.getElem_cons_zero, List.getElem_cons_succ, Act.put, List.setIfInBounds_toArray, List.set_cons_zero, List.set_cons_succ]
        refine wpAnyH_done (by kernel_rfl) ?_ _
        clear hw
        go_wp2_with fail
        go_ret
        exact ⟨rfl, HF.out⟩
      · go_simp
        refine hK _ _ trivial (fun hS => ?_)
        clear hK K
        try simp only [List.getElem_toArray, List.getElem_cons_zero, List.getElem_cons_succ, Act.put, List.setIfInBounds_toArray, List.set_cons_zero, List.set_cons_succ]
        refine wpAnyH_take (i := 15) (v := ?_) rfl (by kernel_rfl) (by kernel_rfl) (by kernel_rfl) (fun _ _ _ h => h) (Or.inl ⟨by rfl, ?_⟩) hS ?_
        rotate_left 1
        · intro w' hSw
          go_simp
          rw [← HTA.out.1, ← HTA.out.2]
        try simp only [List.getElem_toArray, List.getElem_cons_zero, List.getElem_cons_succ, Act.put, List.setIfInBounds_toArray, List.set_cons_zero, List.set_cons_succ]
        refine wpAnyH_ready (rs := [8]) (by kernel_rfl) (by simp) (AllReadyH.cons rfl (fun K hK => ?_) AllReadyH.nil)
        have h8 := H2.out.below hb8
        refine step_append_ownA (by rfl) (.tmp 16) (.tmp 22) 51 (by rfl) WD.heap.size 67 i0 _ 3 48 Tryz.underlying51 hi hz0 hz1 hz2 rfl (by decide) _ 0 [] (by rfl) hown (some ⟨g, 0, none⟩) i c ((rfV P).take (i * 3)) (by rfl) (by rw [List.length_take, hln]; omega) (fun e => by cases e) (fun ad e j u hu => owns_cells (owns_cut h8.row (Nat.le_of_lt hpl)) ad e j u hu) (fun u hu => rfV_one P u (List.mem_of_mem_take hu)) (by unfold maxLen; omega) (by omega) (by omega) ?_
        intro v9 W9 hr9 hg9
        rw [Nat.zero_add, List.nil_append] at hr9
        have hb9 : Below WD.heap.size WD W9 := hb8.trans (grown_below hg9 (fun g e => Nat.le_of_eq (Option.some.inj e)) (by omega))
        have cX9 := (H2.out.below hb9).c0
        refine hK _ _ trivial (fun hS => ?_)
        clear hK K hg9 h8
        try simp only [List.getElem_toArray, List.getElem_cons_zero, List.getElem_cons_succ, Act.put, List.setIfInBounds_toArray, List.set_cons_zero, List.set_cons_succ]
        refine wpAnyH_ready (rs := [16]) (by kernel_rfl) (by simp) (AllReadyH.cons rfl (fun K hK => ?_) AllReadyH.nil)
        refine step_append_ownA (by rfl) (.tmp 23) (.tmp 30) 51 (by rfl) WD.heap.size 67 i0 _ 3 48 Tryz.underlying51 hi hz0 hz1 hz2 rfl (by decide) v9 i ((rfV P).take (i * 3)) (by rfl) hr9 A' (P.length - (i + 1)) c' ((rfV P).drop ((i + 1) * 3)) (by rfl) (by rw [List.length_drop, hln]; omega) HTN.out (HTC.out W9 (fun k e => (hb9.block k (Nat.lt_of_lt_of_le (H.out.lt k (H.out.own k e)) HB.out.size)).trans (HB.out.block k (H.out.lt k (H.out.own k e))))) (fun u hu => rfV_one P u (List.mem_of_mem_drop hu)) (by unfold maxLen; omega) (by omega) hb9.size ?_
        intro v11 W11 hr11 hg11
        have hb11 : Below WD.heap.size WD W11 := hb9.trans (grown_below hg11 (fun k e => (owns_block hr9 k e).1) hb9.size)
        have hbw : Below w.heap.size w W11 := HB.out.trans (hb11.mono HB.out.size)
        have hP : rfV (P.take i ++ P.drop (i + 1)) = (rfV P).take (i * 3) ++ (rfV P).drop ((i + 1) * 3) := by rw [rfV_app, rfV_take _ _ (by omega), rfV_drop _ _ (by omega)]
        have hPl : (P.take i ++ P.drop (i + 1)).length = i + (P.length - (i + 1)) := by simp; omega
        obtain ⟨A11, c11, rfl⟩ := owns_form hr11
        have hr0 := hr11
        rw [← hP, ← hPl] at hr11
        have hmem : ∀ x ∈ P.take i ++ P.drop (i + 1), x ∈ P := fun x hx => (List.mem_append.1 hx).elim List.mem_of_mem_take List.mem_of_mem_drop
        have hfar : ∀ k, k < w.heap.size → (Value.slice (some ⟨g, 0, none⟩) P.length c).ownBlock ≠ some k → W11.heap[k]? = w.heap[k]? := fun k k1 _ => hbw.block k k1
        have hfd := H.out.far hfar hbw.size
        have hfin := H.out.resetB (n' := n) (owns_base hr11) (fun k e => .inr (Nat.le_trans HB.out.size (owns_block hr11 k e).1)) hfar hbw.size ⟨hbw.os, hbw.tape, hbw.output⟩ (fun x hx => hfd x (hmem x hx)) (by rw [← HDL.out]; exact srt_delF H.out.srt s) (fun x hx => H.out.len x (hmem x hx)) (by rw [hPl]; have := H.out.few; omega) H.out.nn
        rw [← HDL.out, hPl] at hfin
        have HF : Hid (Rmd B X room (delF (P.map RF.fe) s) n w (W11.setCell ⟨X, 0, none⟩ (.slice A11 (i + (P.length - (i + 1))) c11))) := Lib.hid ⟨hfin.1, fun k k1 k2 => (Below.heap_setCell W11 _ _ k k2).trans (hbw.block k k1), hfin.2⟩
        have h11 := H2.out.below hb11
        have cX11 := h11.c0
        have zX11 := h11.bk.frozen 0
        refine hK _ _ trivial (fun hS => ?_)
        clear hK K hg11 hfin hfd hfar hmem hPl hP hbw h11 hr11 hr0
        try simp only [List.getElem_toArray, List.getElem_cons_zero, List.getElem_cons_succ, Act.put, List.setIfInBounds_toArray, List.set_cons_zero, List.set_cons_succ]
        refine wpAnyH_take (i := 17) (v := ?_) rfl (by kernel_rfl) (by kernel_rfl) (by kernel_rfl) (fun _ _ _ h => h) (Or.inl ⟨by rfl, ?_⟩) hS ?_
        rotate_left 1
        · intro w' hSw
          go_simp <;> with_reducible rfl
        try simp only [List.getElem_toArray, List.getElem_cons_zero, List.getElem_cons_succ, Act.put, List.setIfInBounds_toArray, List.set_cons_zero, List.set_cons_succ]
        refine wpAnyH_take (i := 18) (v := ?_) rfl (by kernel_rfl) (by kernel_rfl) (by kernel_rfl) (fun _ _ _ h => h) (Or.inl ⟨by rfl, ?_⟩) hS ?_
        rotate_left 1
        · intro w' hSw
          go_simp <;> with_reducible rfl
        try simp only [List.getElem_toArray, List.getElem_cons_zero, List.getElem_cons_succ, Act.put, List.setIfInBounds_toArray, List.set_cons_zero, List.set_cons_succ]
        refine wpAnyH_ready (rs := [19]) (by kernel_rfl) (by simp) (AllReadyH.cons rfl (fun K hK => ?_) AllReadyH.nil)
        go_simp
        refine hK _ _ trivial (fun hS => ?_)
        clear hK K
        try simp only [List.getElem_toArray, List.getElem_cons_zero, List.getElem_cons_succ, Act.put, List.setIfInBounds_toArray, List.set_cons_zero, List.set_cons_succ]
        refine wpAnyH_done (by kernel_rfl) ?_ _
        clear hw
        go_wp2_with fail
        go_ret
        exact ⟨rfl, HF.out⟩
    · go_simp
      refine hK _ _ trivial (fun hS => ?_)
      clear hK K
      try simp only [List.getElem_toArray, List.getElem_cons_zero, List.getElem_cons_succ, Act.put, List.setIfInBounds_toArray, List.set_cons_zero, List.set_cons_succ]
      refine wpAnyH_take (i := 15) (v := ?_) rfl (by kernel_rfl) (by kernel_rfl) (by kernel_rfl) (fun _ _ _ h => h) (Or.inl ⟨by rfl, ?_⟩) hS ?_
      rotate_left 1
      · intro w' hSw
        go_simp
        rw [← HTA.out.1, ← HTA.out.2]
      try simp only [List.getElem_toArray, List.getElem_cons_zero, List.getElem_cons_succ, Act.put, List.setIfInBounds_toArray, List.set_cons_zero, List.set_cons_succ]
      refine wpAnyH_ready (rs := [1]) (by kernel_rfl) (by simp) (AllReadyH.cons rfl (fun K hK => ?_) AllReadyH.nil)
      go_simp
      have hb8 : Below WD.heap.size WD (WD.alloc (.cells #[] 67)) := (Below.refl _ _).alloc (Nat.le_refl _) _
      have hown := owns_new0 WD WD.heap.size 67 3 (Nat.le_refl _)
      have h8 := H2.out.below hb8
      refine hK _ _ trivial (fun hS => ?_)
      clear hK K
      have cX8 := h8.c0
      have hns : (WD.alloc (.cells #[] 67)).heap.size = WD.heap.size + 1 := by simp
      generalize (WD.alloc (.cells #[] 67)) = W8 at *
      try simp only [List.getElem_toArray, List.getElem_cons_zero, List.getElem_cons_succ, Act.put, List.setIfInBounds_toArray, List.set_cons_zero, List.set_cons_succ]
      refine wpAnyH_ready (rs := [8]) (by kernel_rfl) (by simp) (AllReadyH.cons rfl (fun K hK => ?_) AllReadyH.nil)
      have h8 := H2.out.below hb8
      refine step_append_ownA (by rfl) (.tmp 16) (.tmp 22) 51 (by rfl) WD.heap.size 67 i0 _ 3 48 Tryz.underlying51 hi hz0 hz1 hz2 rfl (by decide) _ 0 [] (by rfl) hown (some ⟨g, 0, none⟩) i c ((rfV P).take (i * 3)) (by rfl) (by rw [List.length_take, hln]; omega) (fun e => by cases e) (fun ad e j u hu => owns_cells (owns_cut h8.row (Nat.le_of_lt hpl)) ad e j u hu) (fun u hu => rfV_one P u (List.mem_of_mem_take hu)) (by unfold maxLen; omega) (by omega) (by omega) ?_
      intro v9 W9 hr9 hg9
      rw [Nat.zero_add, List.nil_append] at hr9
      have hb9 : Below WD.heap.size WD W9 := hb8.trans (grown_below hg9 (fun g e => Nat.le_of_eq (Option.some.inj e)) (by omega))
      have cX9 := (H2.out.below hb9).c0
      refine hK _ _ trivial (fun hS => ?_)
      clear hK K hg9 h8
      try simp only [List.getElem_toArray, List.getElem_cons_zero, List.getElem_cons_succ, Act.put, List.setIfInBounds_toArray, List.set_cons_zero, List.set_cons_succ]
      refine wpAnyH_ready (rs := [16]) (by kernel_rfl) (by simp) (AllReadyH.cons rfl (fun K hK => ?_) AllReadyH.nil)
      refine step_append_ownA (by rfl) (.tmp 23) (.tmp 30) 51 (by rfl) WD.heap.size 67 i0 _ 3 48 Tryz.underlying51 hi hz0 hz1 hz2 rfl (by decide) v9 i ((rfV P).take (i * 3)) (by rfl) hr9 A' (P.length - (i + 1)) c' ((rfV P).drop ((i + 1) * 3)) (by rfl) (by rw [List.length_drop, hln]; omega) HTN.out (HTC.out W9 (fun k e => (hb9.block k (Nat.lt_of_lt_of_le (H.out.lt k (H.out.own k e)) HB.out.size)).trans (HB.out.block k (H.out.lt k (H.out.own k e))))) (fun u hu => rfV_one P u (List.mem_of_mem_drop hu)) (by unfold maxLen; omega) (by omega) hb9.size ?_
      intro v11 W11 hr11 hg11
      have hb11 : Below WD.heap.size WD W11 := hb9.trans (grown_below hg11 (fun k e => (owns_block hr9 k e).1) hb9.size)
      have hbw : Below w.heap.size w W11 := HB.out.trans (hb11.mono HB.out.size)
      have hP : rfV (P.take i ++ P.drop (i + 1)) = (rfV P).take (i * 3) ++ (rfV P).drop ((i + 1) * 3) := by rw [rfV_app, rfV_take _ _ (by omega), rfV_drop _ _ (by omega)]
      have hPl : (P.take i ++ P.drop (i + 1)).length = i + (P.length - (i + 1)) := by simp; omega
      obtain ⟨A11, c11, rfl⟩ := owns_form hr11
      have hr0 := hr11
      rw [← hP, ← hPl] at hr11
      have hmem : ∀ x ∈ P.take i ++ P.drop (i + 1), x ∈ P := fun x hx => (List.mem_append.1 hx).elim List.mem_of_mem_take List.mem_of_mem_drop
      have hfar : ∀ k, k < w.heap.size → (Value.slice (some ⟨g, 0, none⟩) P.length c).ownBlock ≠ some k → W11.heap[k]? = w.heap[k]? := fun k k1 _ => hbw.block k k1
      have hfd := H.out.far hfar hbw.size
      have hfin := H.out.resetB (n' := n) (owns_base hr11) (fun k e => .inr (Nat.le_trans HB.out.size (owns_block hr11 k e).1)) hfar hbw.size ⟨hbw.os, hbw.tape, hbw.output⟩ (fun x hx => hfd x (hmem x hx)) (by rw [← HDL.out]; exact srt_delF H.out.srt s) (fun x hx => H.out.len x (hmem x hx)) (by rw [hPl]; have := H.out.few; omega) H.out.nn
      rw [← HDL.out, hPl] at hfin
      have HF : Hid (Rmd B X room (delF (P.map RF.fe) s) n w (W11.setCell ⟨X, 0, none⟩ (.slice A11 (i + (P.length - (i + 1))) c11))) := Lib.hid ⟨hfin.1, fun k k1 k2 => (Below.heap_setCell W11 _ _ k k2).trans (hbw.block k k1), hfin.2⟩
      have h11 := H2.out.below hb11
      have cX11 := h11.c0
      have zX11 := h11.bk.frozen 0
      refine hK _ _ trivial (fun hS => ?_)
      clear hK K hg11 hfin hfd hfar hmem hPl hP hbw h11 hr11 hr0
      try simp only [List.getElem_toArray, List.getElem_cons_zero, List.getElem_cons_succ, Act.put, List.setIfInBounds_toArray, List.set_cons_zero, List.set_cons_succ]
      refine wpAnyH_take (i := 17) (v := ?_) rfl (by kernel_rfl) (by kernel_rfl) (by kernel_rfl) (fun _ _ _ h => h) (Or.inl ⟨by rfl, ?_⟩) hS ?_
      rotate_left 1
      · intro w' hSw
        go_simp <;> with_reducible rfl
      try simp only [List.getElem_toArray, List.getElem_cons_zero, List.getElem_cons_succ, Act.put, List.setIfInBounds_toArray, List.set_cons_zero, List.set_cons_succ]
      refine wpAnyH_take (i := 18) (v := ?_) rfl (by kernel_rfl) (by kernel_rfl) (by kernel_rfl) (fun _ _ _ h => h) (Or.inl ⟨by rfl, ?_⟩) hS ?_
      rotate_left 1
      · intro w' hSw
        go_simp <;> with_reducible rfl
      try simp only [List.getElem_toArray, List.getElem_cons_zero, List.getElem_cons_succ, Act.put, List.setIfInBounds_toArray, List.set_cons_zero, List.set_cons_succ]
      refine wpAnyH_ready (rs := [19]) (by kernel_rfl) (by simp) (AllReadyH.cons rfl (fun K hK => ?_) AllReadyH.nil)
      go_simp
      refine hK _ _ trivial (fun hS => ?_)
      clear hK K
      try simp only [List.getElem_toArray, List.getElem_cons_zero, List.getElem_cons_succ, Act.put, List.setIfInBounds_toArray, List.set_cons_zero, List.set_cons_succ]
      refine wpAnyH_done (by kernel_rfl) ?_ _
      clear hw
      go_wp2_with fail
      go_ret
      exact ⟨rfl, HF.out⟩
  · go_simp
    refine hK _ _ trivial (fun hS => ?_)
    clear hK K
    try simp only [List.getElem_toArray, List.getElem_cons_zero, List.getElem_cons_succ, Act.put, List.setIfInBounds_toArray, List.set_cons_zero, List.set_cons_succ]
    refine wpAnyH_take (i := 15) (v := ?_) rfl (by kernel_rfl) (by kernel_rfl) (by kernel_rfl) (fun _ _ _ h => h) (Or.inl ⟨by rfl, ?_⟩) hS ?_
    rotate_left 1
    · intro w' hSw
      go_simp
      rw [← HTA.out.1, ← HTA.out.2]
    try simp only [List.getElem_toArray, List.getElem_cons_zero, List.getElem_cons_succ, Act.put, List.setIfInBounds_toArray, List.set_cons_zero, List.set_cons_succ]
    refine wpAnyH_ready (rs := [1, 5]) (by kernel_rfl) (by simp) (AllReadyH.cons rfl (fun K hK => ?_) (AllReadyH.cons rfl (fun K hK => ?_) AllReadyH.nil))
    · go_simp
      have hb8 : Below WD.heap.size WD (WD.alloc (.cells #[] 67)) := (Below.refl _ _).alloc (Nat.le_refl _) _
      have hown := owns_new0 WD WD.heap.size 67 3 (Nat.le_refl _)
      have h8 := H2.out.below hb8
      refine hK _ _ trivial (fun hS => ?_)
      clear hK K
      have cX8 := h8.c0
      have hns : (WD.alloc (.cells #[] 67)).heap.size = WD.heap.size + 1 := by simp
      generalize (WD.alloc (.cells #[] 67)) = W8 at *
      try simp only [List.getElem_toArray, List.getElem_cons_zero, List.getElem_cons_succ, Act.put, List.setIfInBounds_toArray, List.set_cons_zero, List.set_cons_succ]
      refine wpAnyH_ready (rs := [5]) (by kernel_rfl) (by simp) (AllReadyH.cons rfl (fun K hK => ?_) AllReadyH.nil)
      go_simp
      refine hK _ _ trivial (fun hS => ?_)
      clear hK K
      try simp only [List.getElem_toArray, List.getElem_cons_zero, List.getElem_cons_succ, Act.put, List.setIfInBounds_toArray, List.set_cons_zero, List.set_cons_succ]
      refine wpAnyH_take (i := 7) (v := ?_) rfl (by kernel_rfl) (by kernel_rfl) (by kernel_rfl) (fun _ _ _ h => h) (Or.inl ⟨by rfl, ?_⟩) hS ?_
      rotate_left 1
      · intro w' hSw
        go_simp <;> with_reducible rfl
      try simp only [List.getElem_toArray, List.getElem_cons_zero, List.getElem_cons_succ, Act.put, List.setIfInBounds_toArray, List.set_cons_zero, List.set_cons_succ]
      refine wpAnyH_ready (rs := [8]) (by kernel_rfl) (by simp) (AllReadyH.cons rfl (fun K hK => ?_) AllReadyH.nil)
      have h8 := H2.out.below hb8
      refine step_append_ownA (by rfl) (.tmp 16) (.tmp 22) 51 (by rfl) WD.heap.size 67 i0 _ 3 48 Tryz.underlying51 hi hz0 hz1 hz2 rfl (by decide) _ 0 [] (by rfl) hown (some ⟨g, 0, none⟩) i c ((rfV P).take (i * 3)) (by rfl) (by rw [List.length_take, hln]; omega) (fun e => by cases e) (fun ad e j u hu => owns_cells (owns_cut h8.row (Nat.le_of_lt hpl)) ad e j u hu) (fun u hu => rfV_one P u (List.mem_of_mem_take hu)) (by unfold maxLen; omega) (by omega) (by omega) ?_
      intro v9 W9 hr9 hg9
      rw [Nat.zero_add, List.nil_append] at hr9
      have hb9 : Below WD.heap.size WD W9 := hb8.trans (grown_below hg9 (fun g e => Nat.le_of_eq (Option.some.inj e)) (by omega))
      have cX9 := (H2.out.below hb9).c0
      refine hK _ _ trivial (fun hS => ?_)
      clear hK K hg9 h8
      try simp only [List.getElem_toArray, List.getElem_cons_zero, List.getElem_cons_succ, Act.put, List.setIfInBounds_toArray, List.set_cons_zero, List.set_cons_succ]
      refine wpAnyH_ready (rs := [16]) (by kernel_rfl) (by simp) (AllReadyH.cons rfl (fun K hK => ?_) AllReadyH.nil)
      refine step_append_ownA (by rfl) (.tmp 23) (.tmp 30) 51 (by rfl) WD.heap.size 67 i0 _ 3 48 Tryz.underlying51 hi hz0 hz1 hz2 rfl (by decide) v9 i ((rfV P).take (i * 3)) (by rfl) hr9 A' (P.length - (i + 1)) c' ((rfV P).drop ((i + 1) * 3)) (by rfl) (by rw [List.length_drop, hln]; omega) HTN.out (HTC.out W9 (fun k e => (hb9.block k (Nat.lt_of_lt_of_le (H.out.lt k (H.out.own k e)) HB.out.size)).trans (HB.out.block k (H.out.lt k (H.out.own k e))))) (fun u hu => rfV_one P u (List.mem_of_mem_drop hu)) (by unfold maxLen; omega) (by omega) hb9.size ?_
      intro v11 W11 hr11 hg11
      have hb11 : Below WD.heap.size WD W11 := hb9.trans (grown_below hg11 (fun k e => (owns_block hr9 k e).1) hb9.size)
      have hbw : Below w.heap.size w W11 := HB.out.trans (hb11.mono HB.out.size)
      have hP : rfV (P.take i ++ P.drop (i + 1)) = (rfV P).take (i * 3) ++ (rfV P).drop ((i + 1) * 3) := by rw [rfV_app, rfV_take _ _ (by omega), rfV_drop _ _ (by omega)]
      have hPl : (P.take i ++ P.drop (i + 1)).length = i + (P.length - (i + 1)) := by simp; omega
      obtain ⟨A11, c11, rfl⟩ := owns_form hr11
      have hr0 := hr11
      rw [← hP, ← hPl] at hr11
      have hmem : ∀ x ∈ P.take i ++ P.drop (i + 1), x ∈ P := fun x hx => (List.mem_append.1 hx).elim List.mem_of_mem_take List.mem_of_mem_drop
      have hfar : ∀ k, k < w.heap.size → (Value.slice (some ⟨g, 0, none⟩) P.length c).ownBlock ≠ some k → W11.heap[k]? = w.heap[k]? := fun k k1 _ => hbw.block k k1
      have hfd := H.out.far hfar hbw.size
      have hfin := H.out.resetB (n' := n) (owns_base hr11) (fun k e => .inr (Nat.le_trans HB.out.size (owns_block hr11 k e).1)) hfar hbw.size ⟨hbw.os, hbw.tape, hbw.output⟩ (fun x hx => hfd x (hmem x hx)) (by rw [← HDL.out]; exact srt_delF H.out.srt s) (fun x hx => H.out.len x (hmem x hx)) (by rw [hPl]; have := H.out.few; omega) H.out.nn
      rw [← HDL.out, hPl] at hfin
      have HF : Hid (Rmd B X room (delF (P.map RF.fe) s) n w (W11.setCell ⟨X, 0, none⟩ (.slice A11 (i + (P.length - (i + 1))) c11))) := Lib.hid ⟨hfin.1, fun k k1 k2 => (Below.heap_setCell W11 _ _ k k2).trans (hbw.block k k1), hfin.2⟩
      have h11 := H2.out.below hb11
      have cX11 := h11.c0
      have zX11 := h11.bk.frozen 0
      refine hK _ _ trivial (fun hS => ?_)
      clear hK K hg11 hfin hfd hfar hmem hPl hP hbw h11 hr11 hr0
      try simp only [List.getElem_toArray, List.getElem_cons_zero, List.getElem_cons_succ, Act.put, List.setIfInBounds_toArray, List.set_cons_zero, List.set_cons_succ]
      refine wpAnyH_take (i := 17) (v := ?_) rfl (by kernel_rfl) (by kernel_rfl) (by kernel_rfl) (fun _ _ _ h => h) (Or.inl ⟨by rfl, ?_⟩) hS ?_
      rotate_left 1
      · intro w' hSw
        go_simp <;> with_reducible rfl
      try simp only [List.getElem_toArray, List.getElem_cons_zero, List.getElem_cons_succ, Act.put, List.setIfInBounds_toArray, List.set_cons_zero, List.set_cons_succ]
      refine wpAnyH_take (i := 18) (v := ?_) rfl (by kernel_rfl) (by kernel_rfl) (by kernel_rfl) (fun _ _ _ h => h) (Or.inl ⟨by rfl, ?_⟩) hS ?_
      rotate_left 1
      · intro w' hSw
        go_simp <;> with_reducible rfl
      try simp only [List.getElem_toArray, List.getElem_cons_zero, List.getElem_cons_succ, Act.put, List.setIfInBounds_toArray, List.set_cons_zero, List.set_cons_succ]
      refine wpAnyH_ready (rs := [19]) (by kernel_rfl) (by simp) (AllReadyH.cons rfl (fun K hK => ?_) AllReadyH.nil)
      go_simp
      refine hK _ _ trivial (fun hS => ?_)
      clear hK K
      try simp only [List.getElem_toArray, List.getElem_cons_zero, List.getElem_cons_succ, Act.put, List.setIfInBounds_toArray, List.set_cons_zero, List.set_cons_succ]
      refine wpAnyH_done (by kernel_rfl) ?_ _
      clear hw
      go_wp2_with fail
      go_ret
      exact ⟨rfl, HF.out⟩
    · go_simp
      refine hK _ _ trivial (fun hS => ?_)
      clear hK K
      try simp only [List.getElem_toArray, List.getElem_cons_zero, List.getElem_cons_succ, Act.put, List.setIfInBounds_toArray, List.set_cons_zero, List.set_cons_succ]
      refine wpAnyH_take (i := 7) (v := ?_) rfl (by kernel_rfl) (by kernel_rfl) (by kernel_rfl) (fun _ _ _ h => h) (Or.inl ⟨by rfl, ?_⟩) hS ?_
      rotate_left 1
      · intro w' hSw
        go_simp <;> with_reducible rfl
      try simp only [List.getElem_toArray, List.getElem_cons_zero, List.getElem_cons_succ, Act.put, List.setIfInBounds_toArray, List.set_cons_zero, List.set_cons_succ]
      refine wpAnyH_ready (rs := [1]) (by kernel_rfl) (by simp) (AllReadyH.cons rfl (fun K hK => ?_) AllReadyH.nil)
      go_simp
      have hb8 : Below WD.heap.size WD (WD.alloc (.cells #[] 67)) := (Below.refl _ _).alloc (Nat.le_refl _) _
      have hown := owns_new0 WD WD.heap.size 67 3 (Nat.le_refl _)
      have h8 := H2.out.below hb8
      refine hK _ _ trivial (fun hS => ?_)
      clear hK K
      have cX8 := h8.c0
      have hns : (WD.alloc (.cells #[] 67)).heap.size = WD.heap.size + 1 := by simp
      generalize (WD.alloc (.cells #[] 67)) = W8 at *
      try simp only [List.getElem_toArray, List.getElem_cons_zero, List.getElem_cons_succ, Act.put, List.setIfInBounds_toArray, List.set_cons_zero, List.set_cons_succ]
      refine wpAnyH_ready (rs := [8]) (by kernel_rfl) (by simp) (AllReadyH.cons rfl (fun K hK => ?_) AllReadyH.nil)
      have h8 := H2.out.below hb8
      refine step_append_ownA (by rfl) (.tmp 16) (.tmp 22) 51 (by rfl) WD.heap.size 67 i0 _ 3 48 Tryz.underlying51 hi hz0 hz1 hz2 rfl (by decide) _ 0 [] (by rfl) hown (some ⟨g, 0, none⟩) i c ((rfV P).take (i * 3)) (by rfl) (by rw [List.length_take, hln]; omega) (fun e => by cases e) (fun ad e j u hu => owns_cells (owns_cut h8.row (Nat.le_of_lt hpl)) ad e j u hu) (fun u hu => rfV_one P u (List.mem_of_mem_take hu)) (by unfold maxLen; omega) (by omega) (by omega) ?_
      intro v9 W9 hr9 hg9
      rw [Nat.zero_add, List.nil_append] at hr9
      have hb9 : Below WD.heap.size WD W9 := hb8.trans (grown_below hg9 (fun g e => Nat.le_of_eq (Option.some.inj e)) (by omega))
      have cX9 := (H2.out.below hb9).c0
      refine hK _ _ trivial (fun hS => ?_)
      clear hK K hg9 h8
      try simp only [List.getElem_toArray, List.getElem_cons_zero, List.getElem_cons_succ, Act.put, List.setIfInBounds_toArray, List.set_cons_zero, List.set_cons_succ]
      refine wpAnyH_ready (rs := [16]) (by kernel_rfl) (by simp) (AllReadyH.cons rfl (fun K hK => ?_) AllReadyH.nil)
      refine step_append_ownA (by rfl) (.tmp 23) (.tmp 30) 51 (by rfl) WD.heap.size 67 i0 _ 3 48 Tryz.underlying51 hi hz0 hz1 hz2 rfl (by decide) v9 i ((rfV P).take (i * 3)) (by rfl) hr9 A' (P.length - (i + 1)) c' ((rfV P).drop ((i + 1) * 3)) (by rfl) (by rw [List.length_drop, hln]; omega) HTN.out (HTC.out W9 (fun k e => (hb9.block k (Nat.lt_of_lt_of_le (H.out.lt k (H.out.own k e)) HB.out.size)).trans (HB.out.block k (H.out.lt k (H.out.own k e))))) (fun u hu => rfV_one P u (List.mem_of_mem_drop hu)) (by unfold maxLen; omega) (by omega) hb9.size ?_
      intro v11 W11 hr11 hg11
      have hb11 : Below WD.heap.size WD W11 := hb9.trans (grown_below hg11 (fun k e => (owns_block hr9 k e).1) hb9.size)
      have hbw : Below w.heap.size w W11 := HB.out.trans (hb11.mono HB.out.size)
      have hP : rfV (P.take i ++ P.drop (i + 1)) = (rfV P).take (i * 3) ++ (rfV P).drop ((i + 1) * 3) := by rw [rfV_app, rfV_take _ _ (by omega), rfV_drop _ _ (by omega)]
      have hPl : (P.take i ++ P.drop (i + 1)).length = i + (P.length - (i + 1)) := by simp; omega
      obtain ⟨A11, c11, rfl⟩ := owns_form hr11
      have hr0 := hr11
      rw [← hP, ← hPl] at hr11
      have hmem : ∀ x ∈ P.take i ++ P.drop (i + 1), x ∈ P := fun x hx => (List.mem_append.1 hx).elim List.mem_of_mem_take List.mem_of_mem_drop
      have hfar : ∀ k, k < w.heap.size → (Value.slice (some ⟨g, 0, none⟩) P.length c).ownBlock ≠ some k → W11.heap[k]? = w.heap[k]? := fun k k1 _ => hbw.block k k1
      have hfd := H.out.far hfar hbw.size
      have hfin := H.out.resetB (n' := n) (owns_base hr11) (fun k e => .inr (Nat.le_trans HB.out.size (owns_block hr11 k e).1)) hfar hbw.size ⟨hbw.os, hbw.tape, hbw.output⟩ (fun x hx => hfd x (hmem x hx)) (by rw [← HDL.out]; exact srt_delF H.out.srt s) (fun x hx => H.out.len x (hmem x hx)) (by rw [hPl]; have := H.out.few; omega) H.out.nn
      rw [← HDL.out, hPl] at hfin
      have HF : Hid (Rmd B X room (delF (P.map RF.fe) s) n w (W11.setCell ⟨X, 0, none⟩ (.slice A11 (i + (P.length - (i + 1))) c11))) := Lib.hid ⟨hfin.1, fun k k1 k2 => (Below.heap_setCell W11 _ _ k k2).trans (hbw.block k k1), hfin.2⟩
      have h11 := H2.out.below hb11
      have cX11 := h11.c0
      have zX11 := h11.bk.frozen 0
      refine hK _ _ trivial (fun hS => ?_)
      clear hK K hg11 hfin hfd hfar hmem hPl hP hbw h11 hr11 hr0
      try simp only [List.getElem_toArray, List.getElem_cons_zero, List.getElem_cons_succ, Act.put, List.setIfInBounds_toArray, List.set_cons_zero, List.set_cons_succ]
      refine wpAnyH_take (i := 17) (v := ?_) rfl (by kernel_rfl) (by kernel_rfl) (by kernel_rfl) (fun _ _ _ h => h) (Or.inl ⟨by rfl, ?_⟩) hS ?_
      rotate_left 1
      · intro w' hSw
        go_simp <;> with_reducible rfl
      try simp only [List.getElem_toArray, List.getElem_cons_zero, List.getElem_cons_succ, Act.put, List.setIfInBounds_toArray, List.set_cons_zero, List.set_cons_succ]
      refine wpAnyH_take (i := 18) (v := ?_) rfl (by kernel_rfl) (by kernel_rfl) (by kernel_rfl) (fun _ _ _ h => h) (Or.inl ⟨by rfl, ?_⟩) hS ?_
      rotate_left 1
      · intro w' hSw
        go_simp <;> with_reducible rfl
      try simp only [List.getElem_toArray, List.getElem_cons_zero, List.getElem_cons_succ, Act.put, List.setIfInBounds_toArray, List.set_cons_zero, List.set_cons_succ]
      refine wpAnyH_ready (rs := [19]) (by kernel_rfl) (by simp) (AllReadyH.cons rfl (fun K hK => ?_) AllReadyH.nil)
      go_simp
      refine hK _ _ trivial (fun hS => ?_)
      clear hK K
      try simp only [List.getElem_toArray, List.getElem_cons_zero, List.getElem_cons_succ, Act.put, List.setIfInBounds_toArray, List.set_cons_zero, List.set_cons_succ]
      refine wpAnyH_done (by kernel_rfl) ?_ _
      clear hw
      go_wp2_with fail
      go_ret
      exact ⟨rfl, HF.out⟩
end
end Go.Proofs.YtcmbeolicopicaaGreat

