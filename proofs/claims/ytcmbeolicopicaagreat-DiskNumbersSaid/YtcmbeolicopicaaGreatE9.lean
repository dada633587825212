/- disk: the document's put, at a name that is not; the walk. -/
import Derived.Test.YtcmbeolicopicaaGreatE8
import Derived.Deep.RegionLaw
namespace Go.Proofs.YtcmbeolicopicaaGreat
open Go.RowKit Go.Maps Go.ChangeMaps
set_option linter.unusedVariables false
set_option linter.unusedSectionVars false
set_option linter.unusedSimpArgs false
set_option maxRecDepth 100000

theorem own_len (A : Option Addr) (i j c : Nat) : (Value.slice A i c).ownBlock = (Value.slice A j c).ownBlock := by cases A <;> rfl
theorem owns_none {w : World} {base e size n : Nat} {A : Option Addr} {c : Nat} {xs : List Value} (h : w.ownsRow base e size (.slice A n c) n xs) : (A = none → n = 0 ∧ c = 0) ∧ (∀ ad, A = some ad → ∃ g, ad = ⟨g, 0, none⟩) := by
  rcases h.2 with ⟨h', h2⟩ | ⟨g, cap, cur, h', _⟩
  · injection h' with e1 _ e3
    subst e1 e3
    exact ⟨fun _ => ⟨h2, rfl⟩, fun ad e => by cases e⟩
  · injection h' with e1 _ e3
    subst e1 e3
    exact ⟨(fun e => by cases e), fun ad e => ⟨g, (Option.some.inj e).symm⟩⟩
theorem owns_cells {w : World} {base e size n : Nat} {A : Option Addr} {c : Nat} {xs : List Value} (h : w.ownsRow base e size (.slice A n c) n xs) (ad : Addr) (ea : A = some ad) : ∀ j u, xs[j]? = some u → w.cell? (ad.add j) = some u := by
  obtain ⟨g, rfl⟩ := (owns_none h).2 ad ea
  subst ea
  exact World.ownsRow.cells (g := g) h rfl
section
variable {B : Nat → Prop} {X n : Nat} {room : Int} {P : List RF} {v : Value} {w : World} (h : RD B X room P n v w)
include h
theorem RD.gfile (b : Nat) (e : v.ownBlock = some b) : ∃ cur, w.heap[b]? = some (.cells cur 67 (0, 0)) := by
  rcases h.row.2 with ⟨q', _⟩ | ⟨g', cap, cur, q', _, hg, _⟩
  · rw [q'] at e; cases e
  · rw [q'] at e
    have e : g' = b := Option.some.inj e
    exact ⟨cur, e ▸ hg⟩
theorem RD.xne : v.ownBlock ≠ some X := by
  intro e
  obtain ⟨cur, hg⟩ := h.gfile X e
  have hb := h.bk
  unfold Bk at hb
  rw [hb] at hg
  injection hg with hg
  injection hg with _ hg
  exact absurd hg (by decide)
/-- s[i:] of the disk's row. -/
theorem RD.tail {A : Option Addr} {c : Nat} (hv : v = .slice A P.length c) {i : Nat} (hi : i ≤ P.length) : ∃ A' c', Hid (A' = (if c = i then A else A.map (·.add (i * 3))) ∧ c' = c - i) ∧ (A' = none → P.length - i = 0 ∧ c' = 0) ∧ ∀ W : World, (∀ g, v.ownBlock = some g → W.heap[g]? = w.heap[g]?) → ∀ ad, A' = some ad → ∀ j u, ((rfV P).drop (i * 3))[j]? = some u → W.cell? (ad.add j) = some u := by
  subst hv
  refine ⟨_, _, Lib.hid ⟨rfl, rfl⟩, fun e => ?_, fun W hW ad e j u hu => ?_⟩
  · have hA : A = none := by
      split at e
      · exact e
      · cases A with
        | none => rfl
        | some _ => cases e
    obtain ⟨A2, c2, hv, h1, h2, h3, _⟩ := h.form
    injection hv with e1 _ e3
    subst e1 e3
    have := h3 hA
    omega
  · obtain ⟨A2, c2, hv, h1, h2, h3, h4⟩ := h.form
    injection hv with e1 _ e3
    subst e1 e3
    have hj := (List.getElem?_eq_some_iff.1 hu).1
    rw [List.length_drop, rfV_len] at hj
    obtain ⟨g, rfl⟩ := h4 (by rintro rfl; simp at hj)
    have hc : ¬ c = i := by
      rintro rfl
      have : P.length = c := by omega
      omega
    rw [if_neg hc] at e
    have e : (⟨g, 0, none⟩ : Addr).add (i * 3) = ad := Option.some.inj e
    have hadd : ∀ (o j : Nat), (⟨g, o, none⟩ : Addr).add j = ⟨g, o + j, none⟩ := fun o j => by unfold Addr.add; split <;> simp_all
    rw [List.getElem?_drop] at hu
    have hcell := World.ownsRow.cells (g := g) h.row rfl _ _ hu
    rw [← e, hadd, hadd]
    rw [hadd] at hcell
    rw [Nat.zero_add] at hcell ⊢
    exact (World.cell?_of_block (hW g rfl)).trans hcell
set_option maxHeartbeats 1000000 in
theorem rput_out {f' : RF} (e : fd (P.map RF.fe) f'.s = none) (hl : f'.l.length ≤ 8388608 ∧ f'.n ≤ f'.l.length ∧ f'.s.length ≤ 24) (hd : Dat w B f'.A f'.c f'.l) (hn : n + 1 ≤ 1000000) : Calls Tryz.prog 58 #[.pointer (some ⟨X, 0, none⟩), f'.agg] w fun e w' => e = .returned (.tuple #[]) ∧ RDid B X room (putF (P.map RF.fe) f'.fe) (n + 1) w w' := by
  have hpl : plc (P.map RF.fe) f'.s ≤ P.length := by have := plc_le (P.map RF.fe) f'.s; rwa [List.length_map] at this
  have hb1 : Below w.heap.size w (w.alloc (.cells #[nmV f'.s, f'.dv, .int .i64 f'.n] 67)) := (Below.refl _ _).alloc (Nat.le_refl _) _
  have hx1 : Bk (w.alloc (.cells #[nmV f'.s, f'.dv, .int .i64 f'.n] 67)) w.heap.size 67 [nmV f'.s, f'.dv, .int .i64 f'.n] := Bk.new w _ _
  have h1 := h.below hb1
  have hp := place_out h1 e
  have hmax : P.length ≤ 1000000 := Nat.le_trans h.few h.nn
  obtain ⟨A, c, rfl, _, _, _, _⟩ := h.form
  obtain ⟨A', c', htl, htn, htc⟩ := h.tail rfl hpl
  have H := Lib.hid h
  have HE := Lib.hid e
  have HD := Lib.hid hd
  have HTC := Lib.hid htc
  have HTN := Lib.hid htn
  clear h e hd htc htn
  obtain ⟨fs, fA, fc, fl, fn⟩ := f'
  unfold RF.agg RF.dv nmV at *
  dsimp only at *
  go_enter Tryz.func58, Tryz.ntmps58
  go_wp2_with fail
  generalize (w.alloc (.cells #[.string ⟨fs.toArray⟩, .slice fA fl.length fc, .int .i64 fn] 67)) = w1 at *
  have hwl : w.heap.size < w1.heap.size := hx1.lt
  have c0 := hx1.cell 0
  simp only [List.getElem?_cons_zero, List.getElem?_cons_succ] at c0
  go_wp2_with fail
  (with_reducible refine hp.mono ?_)
  rintro _ _ ⟨rfl, q, rfl⟩
  clear hp c0 h1
  have hb2 : Below w.heap.size w (w1.drewN q) := hb1.trans ((below_drewN (Below.refl w1.heap.size w1) q).mono (Nat.le_of_lt hwl))
  have hx2 : Bk (w1.drewN q) w.heap.size 67 [.string ⟨fs.toArray⟩, .slice fA fl.length fc, .int .i64 fn] := hx1
  have hwl2 : w.heap.size < (w1.drewN q).heap.size := hwl
  clear hb1 hx1 hwl
  generalize w1.drewN q = W at *
  generalize hii : plc (P.map RF.fe) fs = i at *
  have HI := Lib.hid hii
  clear hii
  have hb3 : Below w.heap.size w (W.alloc (.cells #[] 67)) := hb2.alloc hb2.size _
  have hown := owns_new0 W W.heap.size 67 3 (Nat.le_refl _)
  have cX := (H.out.below hb3).c0
  obtain ⟨i0, hi, hz0, hz1, hz2⟩ := info_parts infoF
  have hln := rfV_len P
  have hic : i ≤ c := by omega
  go_wp2_with (at_builtin; rw [← htl.out.1, ← htl.out.2]; refine wpList_append_ownA (by rfl) (.tmp 22) (.tmp 28) 51 (by rfl) W.heap.size 67 i0 _ 3 48 Tryz.underlying51 hi hz0 hz1 hz2 rfl (by decide) _ 0 [] (by rfl) hown A' (P.length - i) c' ((rfV P).drop (i * 3)) (by rfl) (by rw [List.length_drop, hln]; omega) HTN.out (HTC.out _ (fun g e => hb3.block g (H.out.lt g (H.out.own g e)))) (fun u hu => rfV_one P u (List.mem_of_mem_drop hu)) (by unfold maxLen; omega) (by omega) (by simp) ?_; intro v4 W4 hr4 hg4)
  rw [Nat.zero_add, List.nil_append] at hr4
  have hb4 : Below W.heap.size W W4 := ((Below.refl W.heap.size W).alloc (Nat.le_refl _) (.cells #[] 67)).trans (grown_below hg4 (fun g e => Nat.le_of_eq (Option.some.inj e)) (by simp))
  have hb5 : Below w.heap.size w W4.drew := (hb2.trans (hb4.mono (Nat.le_of_lt hwl2))).drew
  have hx5 : Bk W4.drew w.heap.size 67 [.string ⟨fs.toArray⟩, .slice fA fl.length fc, .int .i64 fn] := (hb4.block _ hwl2).trans hx2
  obtain ⟨A4, c4, rfl⟩ := owns_form hr4
  have hr5 : W4.drew.ownsRow W.heap.size 67 3 (.slice A4 (P.length - i) c4) (P.length - i) ((rfV P).drop (i * 3)) := hr4
  have hWl := Nat.le_of_lt hwl2
  clear hr4 hg4 hb4 hb3 hb2 hx2 hown htl HTN HTC cX
  refine wp_region_held_drew (S := fun w' => True) (by kernel_rfl) trivial (fun hS => ?_)
  generalize W4.drew = W5 at *
  have H5 := Lib.hid (H.out.below hb5)
  have cX5 := H5.out.c0
  have n0 := hx5.cell 0
  have n1 := hx5.cell 1
  have n2 := hx5.cell 2
  simp only [List.getElem?_cons_zero, List.getElem?_cons_succ] at n0 n1 n2
  refine wpAnyH_take (i := 0) (v := ?_) rfl (by kernel_rfl) (by kernel_rfl) (by kernel_rfl) (fun _ _ _ h => h) (Or.inl ⟨by rfl, ?_⟩) hS ?_
  rotate_left 1
  · intro w' hSw
    go_simp <;> with_reducible rfl
  try simp only [List.getElem_toArray, List.getElem_cons_zero, List.getElem_cons_succ, Act.put, List.setIfInBounds_toArray, List.set_cons_zero, List.set_cons_succ]
  refine wpAnyH_take (i := 1) (v := ?_) rfl (by kernel_rfl) (by kernel_rfl) (by kernel_rfl) (fun _ _ _ h => h) (Or.inl ⟨by rfl, ?_⟩) hS ?_
  rotate_left 1
  · intro w' hSw
    go_simp <;> with_reducible rfl
  try simp only [List.getElem_toArray, List.getElem_cons_zero, List.getElem_cons_succ, Act.put, List.setIfInBounds_toArray, List.set_cons_zero, List.set_cons_succ]
  refine wpAnyH_take (i := 2) (v := ?_) rfl (by kernel_rfl) (by kernel_rfl) (by kernel_rfl) (fun _ _ _ h => h) (Or.inl ⟨by rfl, ?_⟩) hS ?_
  rotate_left 1
  · intro w' hSw
    go_simp <;> with_reducible rfl
  try simp only [List.getElem_toArray, List.getElem_cons_zero, List.getElem_cons_succ, Act.put, List.setIfInBounds_toArray, List.set_cons_zero, List.set_cons_succ]
  refine wpAnyH_take (i := 3) (v := ?_) rfl (by kernel_rfl) (by kernel_rfl) (by kernel_rfl) (fun _ _ _ h => h) (Or.inl ⟨by rfl, ?_⟩) hS ?_
  rotate_left 1
  · intro w' hSw
    go_simp <;> with_reducible rfl
  try simp only [List.getElem_toArray, List.getElem_cons_zero, List.getElem_cons_succ, Act.put, List.setIfInBounds_toArray, List.set_cons_zero, List.set_cons_succ]
  refine wpAnyH_take (i := 5) (v := ?_) rfl (by kernel_rfl) (by kernel_rfl) (by kernel_rfl) (fun _ _ _ h => h) (Or.inl ⟨by rfl, ?_⟩) hS ?_
  rotate_left 1
  · intro w' hSw
    go_simp <;> with_reducible rfl
  try simp only [List.getElem_toArray, List.getElem_cons_zero, List.getElem_cons_succ, Act.put, List.setIfInBounds_toArray, List.set_cons_zero, List.set_cons_succ]
  refine wpAnyH_take (i := 10) (v := ?_) rfl (by kernel_rfl) (by kernel_rfl) (by kernel_rfl) (fun _ _ _ h => h) (Or.inl ⟨by rfl, ?_⟩) hS ?_
  rotate_left 1
  · intro w' hSw
    go_simp <;> with_reducible rfl
  try simp only [List.getElem_toArray, List.getElem_cons_zero, List.getElem_cons_succ, Act.put, List.setIfInBounds_toArray, List.set_cons_zero, List.set_cons_succ]
  refine wpAnyH_ready (rs := [4, 7]) (by kernel_rfl) (by simp) (AllReadyH.cons rfl (fun K hK => ?_) (AllReadyH.cons rfl (fun K hK => ?_) AllReadyH.nil))
  · go_simp
    refine hK _ _ trivial (fun hS => ?_)
    clear hK K
    try simp only [List.getElem_toArray, List.getElem_cons_zero, List.getElem_cons_succ, Act.put, List.setIfInBounds_toArray, List.set_cons_zero, List.set_cons_succ]
    refine wpAnyH_take (i := 6) (v := ?_) rfl (by kernel_rfl) (by kernel_rfl) (by kernel_rfl) (fun _ _ _ h => h) (Or.inl ⟨by rfl, ?_⟩) hS ?_
    rotate_left 1
    · intro w' hSw
      go_simp <;> with_reducible rfl
    try simp only [List.getElem_toArray, List.getElem_cons_zero, List.getElem_cons_succ, Act.put, List.setIfInBounds_toArray, List.set_cons_zero, List.set_cons_succ]
    refine wpAnyH_ready (rs := [7]) (by kernel_rfl) (by simp) (AllReadyH.cons rfl (fun K hK => ?_) AllReadyH.nil)
    go_simp
    refine hK _ _ trivial (fun hS => ?_)
    clear hK K
    try simp only [List.getElem_toArray, List.getElem_cons_zero, List.getElem_cons_succ, Act.put, List.setIfInBounds_toArray, List.set_cons_zero, List.set_cons_succ]
    refine wpAnyH_ready (rs := [8]) (by kernel_rfl) (by simp) (AllReadyH.cons rfl (fun K hK => ?_) AllReadyH.nil)
    go_simp
    have hb8 : Below W5.heap.size W5 (W5.alloc (.cells #[.string ⟨fs.toArray⟩, .slice fA fl.length fc, .int .i64 fn] 67)) := (Below.refl _ _).alloc (Nat.le_refl _) _
    have hn8 := news_new W5 [.string ⟨fs.toArray⟩, .slice fA fl.length fc, .int .i64 fn] 67
    refine hK _ _ trivial (fun hS => ?_)
    clear hK K
    rw [show [Value.string ⟨fs.toArray⟩, .slice fA fl.length fc, .int .i64 fn].toArray = #[Value.string ⟨fs.toArray⟩, .slice fA fl.length fc, .int .i64 fn] from rfl] at hn8
    have cX8 := (H5.out.below hb8).c0
    generalize (W5.alloc (.cells #[.string ⟨fs.toArray⟩, .slice fA fl.length fc, .int .i64 fn] 67)) = W8 at *
    try simp only [List.getElem_toArray, List.getElem_cons_zero, List.getElem_cons_succ, Act.put, List.setIfInBounds_toArray, List.set_cons_zero, List.set_cons_succ]
    refine wpAnyH_ready (rs := [9]) (by kernel_rfl) (by simp) (AllReadyH.cons rfl (fun K hK => ?_) AllReadyH.nil)
    have h8 := H5.out.below hb8
    have hr8 : W8.ownsRow W.heap.size 67 3 (.slice A4 (P.length - i) c4) (P.length - i) ((rfV P).drop (i * 3)) := owns_keep hr5 (fun g e => hb8.block g (owns_lt hr5 g e))
    refine step_append_full _ (by rfl) (.tmp 36) (.tmp 38) 51 (by rfl) 67 i0 _ 3 48 Tryz.underlying51 hi hz0 hz1 hz2 rfl 0 (.slice A i c) i ((rfV P).take (i * 3)) (by rfl) (owns_cut h8.row hpl) (Nat.zero_le _) ⟨W5.heap.size, 0, none⟩ 1 1 [.string ⟨fs.toArray⟩, .slice fA fl.length fc, .int .i64 fn] (by rfl) (by rfl) hn8 (fun u hu => by simp at hu; rcases hu with rfl | rfl | rfl <;> rfl) (by unfold maxLen; omega) (by omega) (by decide) ?_
    intro v9 W9 g9 hr9 hgr9 hv9 hg9
    rw [own_len A i P.length c] at hgr9 hg9
    have hr9' : W9.ownsRow W.heap.size 67 3 (.slice A4 (P.length - i) c4) (P.length - i) ((rfV P).drop (i * 3)) := owns_keep hr8 (fun g e => hgr9.block g (owns_lt hr8 g e) (fun e2 => by
      have h1 := (owns_block hr8 g e).1
      have h2 := H.out.lt g (H.out.own g e2.symm)
      omega))
    refine hK _ _ trivial (fun hS => ?_)
    clear hK K hr8 hn8
    try simp only [List.getElem_toArray, List.getElem_cons_zero, List.getElem_cons_succ, Act.put, List.setIfInBounds_toArray, List.set_cons_zero, List.set_cons_succ]
    refine wpAnyH_ready (rs := [11]) (by kernel_rfl) (by simp) (AllReadyH.cons rfl (fun K hK => ?_) AllReadyH.nil)
    refine step_append_loc _ (by rfl) (.tmp 39) (.tmp 40) 51 (by rfl) 67 i0 _ 3 48 Tryz.underlying51 hi hz0 hz1 hz2 rfl 0 v9 (i + 1) _ (by rfl) hr9 (Nat.zero_le _) (by rw [hv9]; exact fun e => by cases e) A4 (P.length - i) c4 ((rfV P).drop (i * 3)) (by rfl) (by rw [List.length_drop, hln]; omega) (owns_none hr9').1 (fun ad e => owns_cells hr9' ad e) (fun u hu => rfV_one P u (List.mem_of_mem_drop hu)) (by unfold maxLen; omega) (by omega) ?_
    intro v11 W11 g11 hr11 hgr11 hv11 hg11
    obtain ⟨A11, c11, rfl⟩ := owns_form hr11
    refine hK _ _ trivial (fun hS => ?_)
    clear hK K
    have hs9 := hgr9.size
    have hs11 := hgr11.size
    have hs8 := hb8.size
    have hs5 := hb5.size
    have hlocA : v9.ownBlock = some g9 ∧ (g9 = W8.heap.size ∨ (Value.slice A P.length c).ownBlock = some g9) := ⟨hv9, hg9⟩
    have hfar : ∀ k, k < w.heap.size → (Value.slice A P.length c).ownBlock ≠ some k → W11.heap[k]? = w.heap[k]? := fun k k1 k2 => by
      have e1 : v9.ownBlock ≠ some k := fun e => by
        rw [hv9] at e
        have e : g9 = k := Option.some.inj e
        rcases hlocA.2 with q | q
        · omega
        · exact k2 (e ▸ q)
      exact (hgr11.block k (by omega) (fun e => e1 e.symm)).trans ((hgr9.block k (by omega) (fun e => k2 e.symm)).trans ((hb8.block k (by omega)).trans (hb5.block k k1)))
    have hP : rfV (P.take i ++ ⟨fs, fA, fc, fl, fn⟩ :: P.drop i) = (rfV P).take (i * 3) ++ [.string ⟨fs.toArray⟩, .slice fA fl.length fc, .int .i64 fn] ++ (rfV P).drop (i * 3) := by
      rw [show RF.mk fs fA fc fl fn :: P.drop i = [RF.mk fs fA fc fl fn] ++ P.drop i from rfl, rfV_app, rfV_app, rfV_one1, rfV_take _ _ hpl, rfV_drop _ _ hpl, List.append_assoc]
      rfl
    have hPl : (P.take i ++ (⟨fs, fA, fc, fl, fn⟩ : RF) :: P.drop i).length = i + 1 + (P.length - i) := by simp; omega
    rw [← hP] at hr11
    rw [← hPl] at hr11
    have hput : (P.take i ++ (⟨fs, fA, fc, fl, fn⟩ : RF) :: P.drop i).map RF.fe = putF (P.map RF.fe) ⟨fs, fl, fn⟩ := by
      rw [putF_ins H.out.srt HE.out, show (FE.mk fs fl fn).s = fs from rfl, HI.out]
      simp [RF.fe]
    have hfd := H.out.far hfar (by omega)
    have hss : W11.os = w.os ∧ W11.tape = w.tape ∧ W11.output = w.output := ⟨hgr11.os.trans (hgr9.os.trans (hb8.os.trans hb5.os)), hgr11.tape.trans (hgr9.tape.trans (hb8.tape.trans hb5.tape)), hgr11.output.trans (hgr9.output.trans (hb8.output.trans hb5.output))⟩
    have hgw : ∀ b, B b ∧ UB w b → W11.heap[b]? = w.heap[b]? := fun b q => hfar b (H.out.lt b q.1) (fun e => by
      obtain ⟨cur, hb⟩ := H.out.gfile b e
      exact ub_ne q.2 hb (by decide) rfl)
    have hfin := H.out.reset (n' := n + 1) hr11 (fun g' e => by
        rw [own_len _ _ (i + 1 + (P.length - i)), hv11] at e
        have e : g11 = g' := Option.some.inj e
        subst e
        rcases hg11 with q | q
        · right; omega
        · rw [hv9] at q
          have q : g9 = g11 := Option.some.inj q
          subst q
          rcases hg9 with q | q
          · right; omega
          · exact .inl q) hfar (by omega) hss (fun f hf => by
        rcases List.mem_append.1 hf with hf | hf
        · exact hfd f (List.mem_of_mem_take hf)
        · rcases List.mem_cons.1 hf with rfl | hf
          · exact HD.out.narrow.keep (fun b q _ => hgw b q) (by omega) (fun b q _ => .inl q.1)
          · exact hfd f (List.mem_of_mem_drop hf)) (by rw [hput]; exact srt_putF H.out.srt _) (fun f hf => by
        rcases List.mem_append.1 hf with hf | hf
        · exact H.out.len f (List.mem_of_mem_take hf)
        · rcases List.mem_cons.1 hf with rfl | hf
          · exact hl
          · exact H.out.len f (List.mem_of_mem_drop hf)) (by rw [hPl]; have := H.out.few; omega) hn
    rw [hput, hPl] at hfin
    have HF := Lib.hid hfin
    have hbX : Bk W11 X 53 [.slice A P.length c, .int .i64 room] := (hfar X (H.out.lt X H.out.hX) H.out.xne).trans H.out.bk
    have cX11 := hbX.cell 0
    have zX11 := hbX.frozen 0
    simp only [List.getElem?_cons_zero] at cX11
    clear hfin hgw hss hfd hput hPl hP hfar hlocA hr11 hgr11 hv11 hg11 hr9 hr9' hgr9 hv9 hg9 hs9 hs11 hs8 hs5 hbX
    try simp only [List.getElem_toArray, List.getElem_cons_zero, List.getElem_cons_succ, Act.put, List.setIfInBounds_toArray, List.set_cons_zero, List.set_cons_succ]
    refine wpAnyH_take (i := 12) (v := ?_) rfl (by kernel_rfl) (by kernel_rfl) (by kernel_rfl) (fun _ _ _ h => h) (Or.inl ⟨by rfl, ?_⟩) hS ?_
    rotate_left 1
    · intro w' hSw
      go_simp <;> with_reducible rfl
    try simp only [List.getElem_toArray, List.getElem_cons_zero, List.getElem_cons_succ, Act.put, List.setIfInBounds_toArray, List.set_cons_zero, List.set_cons_succ]
    refine wpAnyH_take (i := 13) (v := ?_) rfl (by kernel_rfl) (by kernel_rfl) (by kernel_rfl) (fun _ _ _ h => h) (Or.inl ⟨by rfl, ?_⟩) hS ?_
    rotate_left 1
    · intro w' hSw
      go_simp <;> with_reducible rfl
    try simp only [List.getElem_toArray, List.getElem_cons_zero, List.getElem_cons_succ, Act.put, List.setIfInBounds_toArray, List.set_cons_zero, List.set_cons_succ]
    refine wpAnyH_ready (rs := [14]) (by kernel_rfl) (by simp) (AllReadyH.cons rfl (fun K hK => ?_) AllReadyH.nil)
    go_simp
    refine hK _ _ trivial (fun hS => ?_)
    clear hK K
    try simp only [List.getElem_toArray, List.getElem_cons_zero, List.getElem_cons_succ, Act.put, List.setIfInBounds_toArray, List.set_cons_zero, List.set_cons_succ]
    refine wpAnyH_done (by kernel_rfl) ?_ _
    go_wp2_with fail
    refine bodyPost_end (v := .tuple #[]) (by simp [results, Tryz.results58, go_sem]) rfl ⟨rfl, ?_⟩
    exact HF.out
  · go_simp
    refine hK _ _ trivial (fun hS => ?_)
    clear hK K
    try simp only [List.getElem_toArray, List.getElem_cons_zero, List.getElem_cons_succ, Act.put, List.setIfInBounds_toArray, List.set_cons_zero, List.set_cons_succ]
    refine wpAnyH_ready (rs := [4, 8]) (by kernel_rfl) (by simp) (AllReadyH.cons rfl (fun K hK => ?_) (AllReadyH.cons rfl (fun K hK => ?_) AllReadyH.nil))
    · go_simp
      refine hK _ _ trivial (fun hS => ?_)
      clear hK K
      try simp only [List.getElem_toArray, List.getElem_cons_zero, List.getElem_cons_succ, Act.put, List.setIfInBounds_toArray, List.set_cons_zero, List.set_cons_succ]
      refine wpAnyH_take (i := 6) (v := ?_) rfl (by kernel_rfl) (by kernel_rfl) (by kernel_rfl) (fun _ _ _ h => h) (Or.inl ⟨by rfl, ?_⟩) hS ?_
      rotate_left 1
      · intro w' hSw
        go_simp <;> with_reducible rfl
      try simp only [List.getElem_toArray, List.getElem_cons_zero, List.getElem_cons_succ, Act.put, List.setIfInBounds_toArray, List.set_cons_zero, List.set_cons_succ]
      refine wpAnyH_ready (rs := [8]) (by kernel_rfl) (by simp) (AllReadyH.cons rfl (fun K hK => ?_) AllReadyH.nil)
      go_simp
      have hb8 : Below W5.heap.size W5 (W5.alloc (.cells #[.string ⟨fs.toArray⟩, .slice fA fl.length fc, .int .i64 fn] 67)) := (Below.refl _ _).alloc (Nat.le_refl _) _
      have hn8 := news_new W5 [.string ⟨fs.toArray⟩, .slice fA fl.length fc, .int .i64 fn] 67
      refine hK _ _ trivial (fun hS => ?_)
      clear hK K
      rw [show [Value.string ⟨fs.toArray⟩, .slice fA fl.length fc, .int .i64 fn].toArray = #[Value.string ⟨fs.toArray⟩, .slice fA fl.length fc, .int .i64 fn] from rfl] at hn8
      have cX8 := (H5.out.below hb8).c0
      generalize (W5.alloc (.cells #[.string ⟨fs.toArray⟩, .slice fA fl.length fc, .int .i64 fn] 67)) = W8 at *
      try simp only [List.getElem_toArray, List.getElem_cons_zero, List.getElem_cons_succ, Act.put, List.setIfInBounds_toArray, List.set_cons_zero, List.set_cons_succ]
      refine wpAnyH_ready (rs := [9]) (by kernel_rfl) (by simp) (AllReadyH.cons rfl (fun K hK => ?_) AllReadyH.nil)
      have h8 := H5.out.below hb8
      have hr8 : W8.ownsRow W.heap.size 67 3 (.slice A4 (P.length - i) c4) (P.length - i) ((rfV P).drop (i * 3)) := owns_keep hr5 (fun g e => hb8.block g (owns_lt hr5 g e))
      refine step_append_full _ (by rfl) (.tmp 36) (.tmp 38) 51 (by rfl) 67 i0 _ 3 48 Tryz.underlying51 hi hz0 hz1 hz2 rfl 0 (.slice A i c) i ((rfV P).take (i * 3)) (by rfl) (owns_cut h8.row hpl) (Nat.zero_le _) ⟨W5.heap.size, 0, none⟩ 1 1 [.string ⟨fs.toArray⟩, .slice fA fl.length fc, .int .i64 fn] (by rfl) (by rfl) hn8 (fun u hu => by simp at hu; rcases hu with rfl | rfl | rfl <;> rfl) (by unfold maxLen; omega) (by omega) (by decide) ?_
      intro v9 W9 g9 hr9 hgr9 hv9 hg9
      rw [own_len A i P.length c] at hgr9 hg9
      have hr9' : W9.ownsRow W.heap.size 67 3 (.slice A4 (P.length - i) c4) (P.length - i) ((rfV P).drop (i * 3)) := owns_keep hr8 (fun g e => hgr9.block g (owns_lt hr8 g e) (fun e2 => by
        have h1 := (owns_block hr8 g e).1
        have h2 := H.out.lt g (H.out.own g e2.symm)
        omega))
      refine hK _ _ trivial (fun hS => ?_)
      clear hK K hr8 hn8
      try simp only [List.getElem_toArray, List.getElem_cons_zero, List.getElem_cons_succ, Act.put, List.setIfInBounds_toArray, List.set_cons_zero, List.set_cons_succ]
      refine wpAnyH_ready (rs := [11]) (by kernel_rfl) (by simp) (AllReadyH.cons rfl (fun K hK => ?_) AllReadyH.nil)
      refine step_append_loc _ (by rfl) (.tmp 39) (.tmp 40) 51 (by rfl) 67 i0 _ 3 48 Tryz.underlying51 hi hz0 hz1 hz2 rfl 0 v9 (i + 1) _ (by rfl) hr9 (Nat.zero_le _) (by rw [hv9]; exact fun e => by cases e) A4 (P.length - i) c4 ((rfV P).drop (i * 3)) (by rfl) (by rw [List.length_drop, hln]; omega) (owns_none hr9').1 (fun ad e => owns_cells hr9' ad e) (fun u hu => rfV_one P u (List.mem_of_mem_drop hu)) (by unfold maxLen; omega) (by omega) ?_
      intro v11 W11 g11 hr11 hgr11 hv11 hg11
      obtain ⟨A11, c11, rfl⟩ := owns_form hr11
      refine hK _ _ trivial (fun hS => ?_)
      clear hK K
      have hs9 := hgr9.size
      have hs11 := hgr11.size
      have hs8 := hb8.size
      have hs5 := hb5.size
      have hlocA : v9.ownBlock = some g9 ∧ (g9 = W8.heap.size ∨ (Value.slice A P.length c).ownBlock = some g9) := ⟨hv9, hg9⟩
      have hfar : ∀ k, k < w.heap.size → (Value.slice A P.length c).ownBlock ≠ some k → W11.heap[k]? = w.heap[k]? := fun k k1 k2 => by
        have e1 : v9.ownBlock ≠ some k := fun e => by
          rw [hv9] at e
          have e : g9 = k := Option.some.inj e
          rcases hlocA.2 with q | q
          · omega
          · exact k2 (e ▸ q)
        exact (hgr11.block k (by omega) (fun e => e1 e.symm)).trans ((hgr9.block k (by omega) (fun e => k2 e.symm)).trans ((hb8.block k (by omega)).trans (hb5.block k k1)))
      have hP : rfV (P.take i ++ ⟨fs, fA, fc, fl, fn⟩ :: P.drop i) = (rfV P).take (i * 3) ++ [.string ⟨fs.toArray⟩, .slice fA fl.length fc, .int .i64 fn] ++ (rfV P).drop (i * 3) := by
        rw [show RF.mk fs fA fc fl fn :: P.drop i = [RF.mk fs fA fc fl fn] ++ P.drop i from rfl, rfV_app, rfV_app, rfV_one1, rfV_take _ _ hpl, rfV_drop _ _ hpl, List.append_assoc]
        rfl
      have hPl : (P.take i ++ (⟨fs, fA, fc, fl, fn⟩ : RF) :: P.drop i).length = i + 1 + (P.length - i) := by simp; omega
      rw [← hP] at hr11
      rw [← hPl] at hr11
      have hput : (P.take i ++ (⟨fs, fA, fc, fl, fn⟩ : RF) :: P.drop i).map RF.fe = putF (P.map RF.fe) ⟨fs, fl, fn⟩ := by
        rw [putF_ins H.out.srt HE.out, show (FE.mk fs fl fn).s = fs from rfl, HI.out]
        simp [RF.fe]
      have hfd := H.out.far hfar (by omega)
      have hss : W11.os = w.os ∧ W11.tape = w.tape ∧ W11.output = w.output := ⟨hgr11.os.trans (hgr9.os.trans (hb8.os.trans hb5.os)), hgr11.tape.trans (hgr9.tape.trans (hb8.tape.trans hb5.tape)), hgr11.output.trans (hgr9.output.trans (hb8.output.trans hb5.output))⟩
      have hgw : ∀ b, B b ∧ UB w b → W11.heap[b]? = w.heap[b]? := fun b q => hfar b (H.out.lt b q.1) (fun e => by
        obtain ⟨cur, hb⟩ := H.out.gfile b e
        exact ub_ne q.2 hb (by decide) rfl)
      have hfin := H.out.reset (n' := n + 1) hr11 (fun g' e => by
          rw [own_len _ _ (i + 1 + (P.length - i)), hv11] at e
          have e : g11 = g' := Option.some.inj e
          subst e
          rcases hg11 with q | q
          · right; omega
          · rw [hv9] at q
            have q : g9 = g11 := Option.some.inj q
            subst q
            rcases hg9 with q | q
            · right; omega
            · exact .inl q) hfar (by omega) hss (fun f hf => by
          rcases List.mem_append.1 hf with hf | hf
          · exact hfd f (List.mem_of_mem_take hf)
          · rcases List.mem_cons.1 hf with rfl | hf
            · exact HD.out.narrow.keep (fun b q _ => hgw b q) (by omega) (fun b q _ => .inl q.1)
            · exact hfd f (List.mem_of_mem_drop hf)) (by rw [hput]; exact srt_putF H.out.srt _) (fun f hf => by
          rcases List.mem_append.1 hf with hf | hf
          · exact H.out.len f (List.mem_of_mem_take hf)
          · rcases List.mem_cons.1 hf with rfl | hf
            · exact hl
            · exact H.out.len f (List.mem_of_mem_drop hf)) (by rw [hPl]; have := H.out.few; omega) hn
      rw [hput, hPl] at hfin
      have HF := Lib.hid hfin
      have hbX : Bk W11 X 53 [.slice A P.length c, .int .i64 room] := (hfar X (H.out.lt X H.out.hX) H.out.xne).trans H.out.bk
      have cX11 := hbX.cell 0
      have zX11 := hbX.frozen 0
      simp only [List.getElem?_cons_zero] at cX11
      clear hfin hgw hss hfd hput hPl hP hfar hlocA hr11 hgr11 hv11 hg11 hr9 hr9' hgr9 hv9 hg9 hs9 hs11 hs8 hs5 hbX
      try simp only [List.getElem_toArray, List.getElem_cons_zero, List.getElem_cons_succ, Act.put, List.setIfInBounds_toArray, List.set_cons_zero, List.set_cons_succ]
      refine wpAnyH_take (i := 12) (v := ?_) rfl (by kernel_rfl) (by kernel_rfl) (by kernel_rfl) (fun _ _ _ h => h) (Or.inl ⟨by rfl, ?_⟩) hS ?_
      rotate_left 1
      · intro w' hSw
        go_simp <;> with_reducible rfl
      try simp only [List.getElem_toArray, List.getElem_cons_zero, List.getElem_cons_succ, Act.put, List.setIfInBounds_toArray, List.set_cons_zero, List.set_cons_succ]
      refine wpAnyH_take (i := 13) (v := ?_) rfl (by kernel_rfl) (by kernel_rfl) (by kernel_rfl) (fun _ _ _ h => h) (Or.inl ⟨by rfl, ?_⟩) hS ?_
      rotate_left 1
      · intro w' hSw
        go_simp <;> with_reducible rfl
      try simp only [List.getElem_toArray, List.getElem_cons_zero, List.getElem_cons_succ, Act.put, List.setIfInBounds_toArray, List.set_cons_zero, List.set_cons_succ]
      refine wpAnyH_ready (rs := [14]) (by kernel_rfl) (by simp) (AllReadyH.cons rfl (fun K hK => ?_) AllReadyH.nil)
      go_simp
      refine hK _ _ trivial (fun hS => ?_)
      clear hK K
      try simp only [List.getElem_toArray, List.getElem_cons_zero, List.getElem_cons_succ, Act.put, List.setIfInBounds_toArray, List.set_cons_zero, List.set_cons_succ]
      refine wpAnyH_done (by kernel_rfl) ?_ _
      go_wp2_with fail
      refine bodyPost_end (v := .tuple #[]) (by simp [results, Tryz.results58, go_sem]) rfl ⟨rfl, ?_⟩
      exact HF.out
    · go_simp
      have hb8 : Below W5.heap.size W5 (W5.alloc (.cells #[.string ⟨fs.toArray⟩, .slice fA fl.length fc, .int .i64 fn] 67)) := (Below.refl _ _).alloc (Nat.le_refl _) _
      have hn8 := news_new W5 [.string ⟨fs.toArray⟩, .slice fA fl.length fc, .int .i64 fn] 67
      refine hK _ _ trivial (fun hS => ?_)
      clear hK K
      rw [show [Value.string ⟨fs.toArray⟩, .slice fA fl.length fc, .int .i64 fn].toArray = #[Value.string ⟨fs.toArray⟩, .slice fA fl.length fc, .int .i64 fn] from rfl] at hn8
      have cX8 := (H5.out.below hb8).c0
      generalize (W5.alloc (.cells #[.string ⟨fs.toArray⟩, .slice fA fl.length fc, .int .i64 fn] 67)) = W8 at *
      try simp only [List.getElem_toArray, List.getElem_cons_zero, List.getElem_cons_succ, Act.put, List.setIfInBounds_toArray, List.set_cons_zero, List.set_cons_succ]
      refine wpAnyH_ready (rs := [4]) (by kernel_rfl) (by simp) (AllReadyH.cons rfl (fun K hK => ?_) AllReadyH.nil)
      go_simp
      refine hK _ _ trivial (fun hS => ?_)
      clear hK K
      try simp only [List.getElem_toArray, List.getElem_cons_zero, List.getElem_cons_succ, Act.put, List.setIfInBounds_toArray, List.set_cons_zero, List.set_cons_succ]
      refine wpAnyH_take (i := 6) (v := ?_) rfl (by kernel_rfl) (by kernel_rfl) (by kernel_rfl) (fun _ _ _ h => h) (Or.inl ⟨by rfl, ?_⟩) hS ?_
      rotate_left 1
      · intro w' hSw
        go_simp <;> with_reducible rfl
      try simp only [List.getElem_toArray, List.getElem_cons_zero, List.getElem_cons_succ, Act.put, List.setIfInBounds_toArray, List.set_cons_zero, List.set_cons_succ]
      refine wpAnyH_ready (rs := [9]) (by kernel_rfl) (by simp) (AllReadyH.cons rfl (fun K hK => ?_) AllReadyH.nil)
      have h8 := H5.out.below hb8
      have hr8 : W8.ownsRow W.heap.size 67 3 (.slice A4 (P.length - i) c4) (P.length - i) ((rfV P).drop (i * 3)) := owns_keep hr5 (fun g e => hb8.block g (owns_lt hr5 g e))
      refine step_append_full _ (by rfl) (.tmp 36) (.tmp 38) 51 (by rfl) 67 i0 _ 3 48 Tryz.underlying51 hi hz0 hz1 hz2 rfl 0 (.slice A i c) i ((rfV P).take (i * 3)) (by rfl) (owns_cut h8.row hpl) (Nat.zero_le _) ⟨W5.heap.size, 0, none⟩ 1 1 [.string ⟨fs.toArray⟩, .slice fA fl.length fc, .int .i64 fn] (by rfl) (by rfl) hn8 (fun u hu => by simp at hu; rcases hu with rfl | rfl | rfl <;> rfl) (by unfold maxLen; omega) (by omega) (by decide) ?_
      intro v9 W9 g9 hr9 hgr9 hv9 hg9
      rw [own_len A i P.length c] at hgr9 hg9
      have hr9' : W9.ownsRow W.heap.size 67 3 (.slice A4 (P.length - i) c4) (P.length - i) ((rfV P).drop (i * 3)) := owns_keep hr8 (fun g e => hgr9.block g (owns_lt hr8 g e) (fun e2 => by
        have h1 := (owns_block hr8 g e).1
        have h2 := H.out.lt g (H.out.own g e2.symm)
        omega))
      refine hK _ _ trivial (fun hS => ?_)
      clear hK K hr8 hn8
      try simp only [List.getElem_toArray, List.getElem_cons_zero, List.getElem_cons_succ, Act.put, List.setIfInBounds_toArray, List.set_cons_zero, List.set_cons_succ]
      refine wpAnyH_ready (rs := [11]) (by kernel_rfl) (by simp) (AllReadyH.cons rfl (fun K hK => ?_) AllReadyH.nil)
      refine step_append_loc _ (by rfl) (.tmp 39) (.tmp 40) 51 (by rfl) 67 i0 _ 3 48 Tryz.underlying51 hi hz0 hz1 hz2 rfl 0 v9 (i + 1) _ (by rfl) hr9 (Nat.zero_le _) (by rw [hv9]; exact fun e => by cases e) A4 (P.length - i) c4 ((rfV P).drop (i * 3)) (by rfl) (by rw [List.length_drop, hln]; omega) (owns_none hr9').1 (fun ad e => owns_cells hr9' ad e) (fun u hu => rfV_one P u (List.mem_of_mem_drop hu)) (by unfold maxLen; omega) (by omega) ?_
      intro v11 W11 g11 hr11 hgr11 hv11 hg11
      obtain ⟨A11, c11, rfl⟩ := owns_form hr11
      refine hK _ _ trivial (fun hS => ?_)
      clear hK K
      have hs9 := hgr9.size
      have hs11 := hgr11.size
      have hs8 := hb8.size
      have hs5 := hb5.size
      have hlocA : v9.ownBlock = some g9 ∧ (g9 = W8.heap.size ∨ (Value.slice A P.length c).ownBlock = some g9) := ⟨hv9, hg9⟩
      have hfar : ∀ k, k < w.heap.size → (Value.slice A P.length c).ownBlock ≠ some k → W11.heap[k]? = w.heap[k]? := fun k k1 k2 => by
        have e1 : v9.ownBlock ≠ some k := fun e => by
          rw [hv9] at e
          have e : g9 = k := Option.some.inj e
          rcases hlocA.2 with q | q
          · omega
          · exact k2 (e ▸ q)
        exact (hgr11.block k (by omega) (fun e => e1 e.symm)).trans ((hgr9.block k (by omega) (fun e => k2 e.symm)).trans ((hb8.block k (by omega)).trans (hb5.block k k1)))
      have hP : rfV (P.take i ++ ⟨fs, fA, fc, fl, fn⟩ :: P.drop i) = (rfV P).take (i * 3) ++ [.string ⟨fs.toArray⟩, .slice fA fl.length fc, .int .i64 fn] ++ (rfV P).drop (i * 3) := by
        rw [show RF.mk fs fA fc fl fn :: P.drop i = [RF.mk fs fA fc fl fn] ++ P.drop i from rfl, rfV_app, rfV_app, rfV_one1, rfV_take _ _ hpl, rfV_drop _ _ hpl, List.append_assoc]
        rfl
      have hPl : (P.take i ++ (⟨fs, fA, fc, fl, fn⟩ : RF) :: P.drop i).length = i + 1 + (P.length - i) := by simp; omega
      rw [← hP] at hr11
      rw [← hPl] at hr11
      have hput : (P.take i ++ (⟨fs, fA, fc, fl, fn⟩ : RF) :: P.drop i).map RF.fe = putF (P.map RF.fe) ⟨fs, fl, fn⟩ := by
        rw [putF_ins H.out.srt HE.out, show (FE.mk fs fl fn).s = fs from rfl, HI.out]
        simp [RF.fe]
      have hfd := H.out.far hfar (by omega)
      have hss : W11.os = w.os ∧ W11.tape = w.tape ∧ W11.output = w.output := ⟨hgr11.os.trans (hgr9.os.trans (hb8.os.trans hb5.os)), hgr11.tape.trans (hgr9.tape.trans (hb8.tape.trans hb5.tape)), hgr11.output.trans (hgr9.output.trans (hb8.output.trans hb5.output))⟩
      have hgw : ∀ b, B b ∧ UB w b → W11.heap[b]? = w.heap[b]? := fun b q => hfar b (H.out.lt b q.1) (fun e => by
        obtain ⟨cur, hb⟩ := H.out.gfile b e
        exact ub_ne q.2 hb (by decide) rfl)
      have hfin := H.out.reset (n' := n + 1) hr11 (fun g' e => by
          rw [own_len _ _ (i + 1 + (P.length - i)), hv11] at e
          have e : g11 = g' := Option.some.inj e
          subst e
          rcases hg11 with q | q
          · right; omega
          · rw [hv9] at q
            have q : g9 = g11 := Option.some.inj q
            subst q
            rcases hg9 with q | q
            · right; omega
            · exact .inl q) hfar (by omega) hss (fun f hf => by
          rcases List.mem_append.1 hf with hf | hf
          · exact hfd f (List.mem_of_mem_take hf)
          · rcases List.mem_cons.1 hf with rfl | hf
            · exact HD.out.narrow.keep (fun b q _ => hgw b q) (by omega) (fun b q _ => .inl q.1)
            · exact hfd f (List.mem_of_mem_drop hf)) (by rw [hput]; exact srt_putF H.out.srt _) (fun f hf => by
          rcases List.mem_append.1 hf with hf | hf
          · exact H.out.len f (List.mem_of_mem_take hf)
          · rcases List.mem_cons.1 hf with rfl | hf
            · exact hl
            · exact H.out.len f (List.mem_of_mem_drop hf)) (by rw [hPl]; have := H.out.few; omega) hn
      rw [hput, hPl] at hfin
      have HF := Lib.hid hfin
      have hbX : Bk W11 X 53 [.slice A P.length c, .int .i64 room] := (hfar X (H.out.lt X H.out.hX) H.out.xne).trans H.out.bk
      have cX11 := hbX.cell 0
      have zX11 := hbX.frozen 0
      simp only [List.getElem?_cons_zero] at cX11
      clear hfin hgw hss hfd hput hPl hP hfar hlocA hr11 hgr11 hv11 hg11 hr9 hr9' hgr9 hv9 hg9 hs9 hs11 hs8 hs5 hbX
      try simp only [List.getElem_toArray, List.getElem_cons_zero, List.getElem_cons_succ, Act.put, List.setIfInBounds_toArray, List.set_cons_zero, List.set_cons_succ]
      refine wpAnyH_take (i := 12) (v := ?_) rfl (by kernel_rfl) (by kernel_rfl) (by kernel_rfl) (fun _ _ _ h => h) (Or.inl ⟨by rfl, ?_⟩) hS ?_
      rotate_left 1
      · intro w' hSw
        go_simp <;> with_reducible rfl
      try simp only [List.getElem_toArray, List.getElem_cons_zero, List.getElem_cons_succ, Act.put, List.setIfInBounds_toArray, List.set_cons_zero, List.set_cons_succ]
      refine wpAnyH_take (i := 13) (v := ?_) rfl (by kernel_rfl) (by kernel_rfl) (by kernel_rfl) (fun _ _ _ h => h) (Or.inl ⟨by rfl, ?_⟩) hS ?_
      rotate_left 1
      · intro w' hSw
        go_simp <;> with_reducible rfl
      try simp only [List.getElem_toArray, List.getElem_cons_zero, List.getElem_cons_succ, Act.put, List.setIfInBounds_toArray, List.set_cons_zero, List.set_cons_succ]
      refine wpAnyH_ready (rs := [14]) (by kernel_rfl) (by simp) (AllReadyH.cons rfl (fun K hK => ?_) AllReadyH.nil)
      go_simp
      refine hK _ _ trivial (fun hS => ?_)
      clear hK K
      try simp only [List.getElem_toArray, List.getElem_cons_zero, List.getElem_cons_succ, Act.put, List.setIfInBounds_toArray, List.set_cons_zero, List.set_cons_succ]
      refine wpAnyH_done (by kernel_rfl) ?_ _
      go_wp2_with fail
      refine bodyPost_end (v := .tuple #[]) (by simp [results, Tryz.results58, go_sem]) rfl ⟨rfl, ?_⟩
      exact HF.out
end
end Go.Proofs.YtcmbeolicopicaaGreat

