/- raft, the law's world: took. -/
import Derived.Test.YthfofnfkopnbhaaZB
namespace Go.Proofs.Ythfofnfkopnbhaa
open Go.RowKit Go.Maps Go.ChangeMaps
set_option linter.unusedVariables false
set_option linter.unusedSimpArgs false
set_option linter.unusedSectionVars false
set_option maxRecDepth 100000

section
variable {w w' : World} {n : Nat} {tg : Nat → Int} {y : Ly} {prs : Int → Pr En} {k : Kp}
set_option maxHeartbeats 16000000 in
theorem took_any {s : Nat} (h : WmAt w n tg y prs k) (h1 : 1 ≤ s) (h2 : s ≤ n) {c : Cs En} (hc : prs s = c.p) {A : Option Addr} {cap : Nat} (hls : LsAt w (fun b => tg b = 100) (.slice A c.out.length cap) c.out) (hk : TkOk k s c) :
    Calls Try.prog 22 #[.pointer (some ⟨y.WB, 0, none⟩), .int .i64 s, outV c (.slice A c.out.length cap)] w fun e w' => e = .returned (.bool true) ∧ ∃ tg' la' lv' dv' sv', WmAt w' n tg' { y with la := la', lv := lv', dv := dv', sv := sv' } prs (tookK k s c) ∧ Goes tg tg' w w' := by
  obtain ⟨w1, hw1⟩ : ∃ w1, w1 = w.alloc (.cells #[.int .i64 c.p.T, .int .i64 c.p.V, .int .i64 c.frm, .int .i64 c.p.C, .slice A c.out.length cap] 48) := ⟨_, rfl⟩
  have hbk : Bk w1 w.heap.size 48 [.int .i64 c.p.T, .int .i64 c.p.V, .int .i64 c.frm, .int .i64 c.p.C, .slice A c.out.length cap] := by rw [hw1]; exact Bk.new w _ _
  have hb1 : Below w.heap.size w w1 := by rw [hw1]; exact (Below.refl _ _).alloc (Nat.le_refl _) _
  have hW1 := h.below (fun h => h) hb1
  have hlt := h.lt
  have hOB : tg w.heap.size = 0 := Classical.byContradiction fun e => by have := hlt _ e; omega
  obtain ⟨b0, b1, b2, b3, b4, b5, b6, b7⟩ := hW1.cells
  obtain ⟨o0, o1, o2, o3, o4⟩ := cells5 hbk
  have cp := (hW1.pk (fun h => h)).cell h1 h2 (fun h => h)
  have ct := (hW1.tk (fun h => h)).cell h1 h2 trivial
  have cv := (hW1.vk (fun h => h)).cell h1 h2 trivial
  have cl := (hW1.lk (fun h => h)).cell h1 h2 trivial
  have HB1 := Lib.hid hb1
  have HW1 := Lib.hid hW1
  have HO := Lib.hid hbk
  have HK := Lib.hid hk
  have HLS := Lib.hid (hls.keep (fun b hb => hb1.block b (hlt b (by have hb : tg b = 100 := hb; omega))) (fun _ h => h))
  have HC := Lib.hid hc
  have HTG := Lib.hid hOB
  have hs8 : s < n + 1 := by omega
  have hn7 := h.n7
  have k1 := hk.t1
  have k0 := hk.t0
  have k2 := hk.t2
  have d1 : decide (c.p.T < k.T s) = false := decide_eq_false (by omega)
  clear h hW1 hbk hb1 hls hk hc hlt hOB
  go_enter Try.func22, Try.ntmps22
  unfold outV
  go_upto_region 1 with (fail)
  rw [← hw1]
  clear hw1
  go_upto_region 2 with (fail)
  go_cut [59] (fun v wx => v = .bool false ∧ ∃ q, wx = w1.drewN q)
  case first =>
    as_aux_lemma =>
    have e4 := HK.out.v
    by_cases e1 : c.p.T = k.T s
    · by_cases e2 : k.V s = 0
      · have d2 : (c.p.T == k.T s) = true := by simp [e1]
        have d3 : (k.V s == 0) = true := by simp [e2]
        have d4 : (k.V s != 0) = false := by simp [e2]
        clear e1 e2 e4
        go_quiet (fail)
        go_wp2_with fail
        go_meet
        exact ⟨rfl, _, rfl⟩
      · have e3 := e4 e1 e2
        have d2 : (c.p.T == k.T s) = true := by simp [e1]
        have d3 : (k.V s == 0) = false := by simp [e2]
        have d4 : (k.V s != 0) = true := by simp [e2]
        have d5 : (c.p.V == k.V s) = true := by simp [e3]
        have d6 : (c.p.V != k.V s) = false := by simp [e3]
        clear e1 e2 e3 e4
        go_quiet (fail)
        go_wp2_with fail
        go_meet
        exact ⟨rfl, _, rfl⟩
    · have d2 : (c.p.T == k.T s) = false := by simp [e1]
      clear e1 e4
      go_quiet (fail)
      go_wp2_with fail
      go_meet
      exact ⟨rfl, _, rfl⟩
  case rest =>
  obtain ⟨rfl, q, rfl⟩ := hcut
  as_aux_lemma =>
  have hb2 : Below w1.heap.size w1 (w1.drewN q) := ⟨rfl, rfl, rfl, Nat.le_refl _, fun _ _ => rfl⟩
  have HW2 := Lib.hid (HW1.out.below (fun h => h) hb2)
  have HO2 : Hid (Bk (w1.drewN q) w.heap.size 48 [.int .i64 c.p.T, .int .i64 c.p.V, .int .i64 c.frm, .int .i64 c.p.C, .slice A c.out.length cap]) := Lib.hid HO.out
  have HL2 : Hid (LsAt (w1.drewN q) (fun b => tg b = 100) (.slice A c.out.length cap) c.out) := Lib.hid (HLS.out.keep (fun _ _ => rfl) (fun _ h => h))
  have HB2 : Hid (Goes tg tg w (w1.drewN q)) := Lib.hid (Goes.of_below (HB1.out.trans ⟨rfl, rfl, rfl, Nat.le_refl _, fun _ _ => rfl⟩))
  have hz2 : w.heap.size < (w1.drewN q).heap.size := HO2.out.lt
  clear b0 b1 b2 b3 b4 b5 b6 b7 o0 o1 o2 o3 o4 cp ct cv cl HB1 HW1 HO HLS hb2
  generalize w1.drewN q = w2 at *
  obtain ⟨b0, b1, b2, b3, b4, b5, b6, b7⟩ := (HW2).out.cells
  obtain ⟨o0, o1, o2, o3, o4⟩ := cells5 (HO2).out
  have cp := ((HW2).out.pk (fun h => h)).cell h1 h2 (fun h => h)
  have ct := ((HW2).out.tk (fun h => h)).cell h1 h2 trivial
  have cv := ((HW2).out.vk (fun h => h)).cell h1 h2 trivial
  have cl := ((HW2).out.lk (fun h => h)).cell h1 h2 trivial
  have ft := (HW2.out.tk (fun h => h)).frozen s
  have hTO : y.tb ≠ w.heap.size := fun e => by have := HW2.out.tt (fun h => h); rw [e, HTG.out] at this; exact absurd this (by decide)
  go_wp2_with fail
  go_upto_region 5 with (fail)
  go_still_tail 7, (by kernel_rfl)
  go_upto_region 6 with (fail)
  have hst := HW2.out.setT h1 h2 c.p.T
  have HW3 := Lib.hid (hst.1.below (fun h => h) (below_drew _))
  have HO3 := Lib.hid (HO2.out.far (p := ⟨y.tb, s, none⟩) (fun e => hTO e.symm) (.int .i64 c.p.T)).drew
  have HL3 : Hid (LsAt (w2.setCell ⟨y.tb, s, none⟩ (.int .i64 c.p.T)).drew (fun b => tg b = 100) (.slice A c.out.length cap) c.out) := Lib.hid ((ls_far HL2.out (p := ⟨y.tb, s, none⟩) (fun e => by have e : tg y.tb = 100 := e; rw [HW2.out.tt (fun h => h)] at e; exact absurd e (by decide)) _).keep (fun _ _ => rfl) (fun _ h => h))
  have HB3 := Lib.hid (HB2.out.trans (hst.2.trans (Goes.of_below (below_drew _))))
  clear b0 b1 b2 b3 b4 b5 b6 b7 o0 o1 o2 o3 o4 cp ct cv cl ft hst HB2 HW2 HO2 HL2
  generalize (w2.setCell ⟨y.tb, s, none⟩ (.int .i64 c.p.T)).drew = w3 at *
  obtain ⟨b0, b1, b2, b3, b4, b5, b6, b7⟩ := (HW3).out.cells
  obtain ⟨o0, o1, o2, o3, o4⟩ := cells5 (HO3).out
  have cp := ((HW3).out.pk (fun h => h)).cell h1 h2 (fun h => h)
  have ct := ((HW3).out.tk (fun h => h)).cell h1 h2 trivial
  have cv := ((HW3).out.vk (fun h => h)).cell h1 h2 trivial
  have cl := ((HW3).out.lk (fun h => h)).cell h1 h2 trivial
  have fv := (HW3.out.vk (fun h => h)).frozen s
  have hVO : y.vb ≠ w.heap.size := fun e => by have := HW3.out.tv (fun h => h); rw [e, HTG.out] at this; exact absurd this (by decide)
  go_still_tail 7, (by kernel_rfl)
  go_upto_region 7 with (fail)
  have hst := HW3.out.setV h1 h2 c.p.V
  have HW4 := Lib.hid (hst.1.below (fun h => h) (below_drew _))
  have HO4 := Lib.hid (HO3.out.far (p := ⟨y.vb, s, none⟩) (fun e => hVO e.symm) (.int .i64 c.p.V)).drew
  have HL4 : Hid (LsAt (w3.setCell ⟨y.vb, s, none⟩ (.int .i64 c.p.V)).drew (fun b => tg b = 100) (.slice A c.out.length cap) c.out) := Lib.hid ((ls_far HL3.out (p := ⟨y.vb, s, none⟩) (fun e => by have e : tg y.vb = 100 := e; rw [HW3.out.tv (fun h => h)] at e; exact absurd e (by decide)) _).keep (fun _ _ => rfl) (fun _ h => h))
  have HB4 := Lib.hid (HB3.out.trans (hst.2.trans (Goes.of_below (below_drew _))))
  clear b0 b1 b2 b3 b4 b5 b6 b7 o0 o1 o2 o3 o4 cp ct cv cl fv hst HB3 HW3 HO3 HL3
  generalize (w3.setCell ⟨y.vb, s, none⟩ (.int .i64 c.p.V)).drew = w4 at *
  obtain ⟨b0, b1, b2, b3, b4, b5, b6, b7⟩ := (HW4).out.cells
  obtain ⟨o0, o1, o2, o3, o4⟩ := cells5 (HO4).out
  have cp := ((HW4).out.pk (fun h => h)).cell h1 h2 (fun h => h)
  have ct := ((HW4).out.tk (fun h => h)).cell h1 h2 trivial
  have cv := ((HW4).out.vk (fun h => h)).cell h1 h2 trivial
  have cl := ((HW4).out.lk (fun h => h)).cell h1 h2 trivial
  have hpe : PeA w4.drew (y.P s) n s (y.m s) (fun _ => False) ⟨c.p, y.frm s, []⟩ := by have := (HW4.out.pe s h1 h2 (fun h => h)).drew; rw [HC.out] at this; exact this
  have hLg := log_any hpe (show (0 : Int) < (s : Int) by omega)
  have hFr := FromK_any 0 w4.drew (y.m s).lp c.p.log 1 1073741824 hpe.r.log.has (by have := HK.out.len; omega) HK.out.dat (by decide)
  rw [from_all _ HK.out.len] at hFr
  clear hpe
  have hWL : y.lb ≠ y.WB := fun e => by have := HW4.out.tl (fun h => h); rw [e, HW4.out.tW (fun h => h)] at this; exact absurd this (by decide)
  have hS4 : w4.drew.cell? ⟨y.WB, 4, none⟩ = some (.slice (some ⟨y.lb, 0, none⟩) (n + 1) (n + 1)) := b4
  refine wp_region_held_drew (S := fun w' => w'.cell? ⟨y.WB, 4, none⟩ = some (.slice (some ⟨y.lb, 0, none⟩) (n + 1) (n + 1))) (by kernel_rfl) hS4 (fun hS => ?_)
  clear hS4
  refine wpAnyH_take (i := 0) (v := ?_) rfl (by kernel_rfl) (by kernel_rfl) (by kernel_rfl) (fun _ _ _ h => h) (Or.inl ⟨by rfl, ?_⟩) hS ?_
  rotate_left 1
  · intro w' hSw
    go_simp <;> with_reducible rfl
  try simp only [List.getElem_toArray, List.getElem_cons_zero, List.getElem_cons_succ, Act.put, List.setIfInBounds_toArray, List.set_cons_zero, List.set_cons_succ]
  refine wpAnyH_take (i := 1) (v := ?_) rfl (by kernel_rfl) (by kernel_rfl) (by kernel_rfl) (fun _ _ _ h => h) (Or.inl ⟨by rfl, ?_⟩) hS ?_
  rotate_left 1
  · intro w' hSw
    go_simp <;> with_reducible rfl
  try simp only [List.getElem_toArray, List.getElem_cons_zero, List.getElem_cons_succ, Act.put, List.setIfInBounds_toArray, List.set_cons_zero, List.set_cons_succ]
  refine wpAnyH_take (i := 2) (v := ?_) rfl (by kernel_rfl) (by kernel_rfl) (by kernel_rfl) (fun _ _ _ h => h) (Or.inl ⟨by rfl, ?_⟩) hS ?_
  rotate_left 1
  · intro w' hSw
    go_simp <;> with_reducible rfl
  try simp only [List.getElem_toArray, List.getElem_cons_zero, List.getElem_cons_succ, Act.put, List.setIfInBounds_toArray, List.set_cons_zero, List.set_cons_succ]
  refine wpAnyH_take (i := 3) (v := ?_) rfl (by kernel_rfl) (by kernel_rfl) (by kernel_rfl) (fun _ _ _ h => h) (Or.inl ⟨by rfl, ?_⟩) hS ?_
  rotate_left 1
  · intro w' hSw
    go_simp <;> with_reducible rfl
  try simp only [List.getElem_toArray, List.getElem_cons_zero, List.getElem_cons_succ, Act.put, List.setIfInBounds_toArray, List.set_cons_zero, List.set_cons_succ]
  refine wpAnyH_take (i := 4) (v := ?_) rfl (by kernel_rfl) (by kernel_rfl) (by kernel_rfl) (fun _ _ _ h => h) (Or.inl ⟨by rfl, ?_⟩) hS ?_
  rotate_left 1
  · intro w' hSw
    go_simp <;> with_reducible rfl
  try simp only [List.getElem_toArray, List.getElem_cons_zero, List.getElem_cons_succ, Act.put, List.setIfInBounds_toArray, List.set_cons_zero, List.set_cons_succ]
  refine wpAnyH_take (i := 5) (v := ?_) rfl (by kernel_rfl) (by kernel_rfl) (by kernel_rfl) (fun _ _ _ h => h) (Or.inl ⟨by rfl, ?_⟩) hS ?_
  rotate_left 1
  · intro w' hSw
    go_simp <;> with_reducible rfl
  try simp only [List.getElem_toArray, List.getElem_cons_zero, List.getElem_cons_succ, Act.put, List.setIfInBounds_toArray, List.set_cons_zero, List.set_cons_succ]
  refine wpAnyH_ready (rs := [6]) (by kernel_rfl) (by simp) (AllReadyH.cons rfl (fun K hK => ?_) AllReadyH.nil)
  go_simp
  (with_reducible refine hLg.mono ?_)
  rintro _ wl ⟨rfl, rfl⟩
  go_simp
  refine hK _ _ hS (fun hS => ?_)
  clear hK K
  try simp only [List.getElem_toArray, List.getElem_cons_zero, List.getElem_cons_succ, Act.put, List.setIfInBounds_toArray, List.set_cons_zero, List.set_cons_succ]
  refine wpAnyH_ready (rs := [7]) (by kernel_rfl) (by simp) (AllReadyH.cons rfl (fun K hK => ?_) AllReadyH.nil)
  go_simp
  (with_reducible refine hFr.mono ?_)
  rintro _ w5 ⟨v5, g5, ds5, rfl, hl5, hb5⟩
  obtain ⟨A5, c5, rfl, hE5⟩ := hl5.ents
  have cl5 := (World.cell?_of_block (hb5.block _ (HW4.out.lk (fun h => h)).lt)).trans cl
  have fl5 := (World.frozen?_of_block (a := ⟨y.lb, s, none⟩) (hb5.block _ (HW4.out.lk (fun h => h)).lt)).trans ((HW4.out.lk (fun h => h)).frozen s)
  go_simp
  refine hK _ _ ((World.cell?_of_block (hb5.block _ (HW4.out.wb (fun h => h)).lt)).trans hS) (fun hS => ?_)
  clear hK K
  try simp only [List.getElem_toArray, List.getElem_cons_zero, List.getElem_cons_succ, Act.put, List.setIfInBounds_toArray, List.set_cons_zero, List.set_cons_succ]
  refine wpAnyH_take (i := 8) (v := ?_) rfl (by kernel_rfl) (by kernel_rfl) (by kernel_rfl) (fun _ _ _ h => h) (Or.inl ⟨by rfl, ?_⟩) hS ?_
  rotate_left 1
  · intro w' hSw
    go_simp
    exact if_pos (show (s : Int) < (n : Int) + 1 by omega)
  try simp only [List.getElem_toArray, List.getElem_cons_zero, List.getElem_cons_succ, Act.put, List.setIfInBounds_toArray, List.set_cons_zero, List.set_cons_succ]
  refine wpAnyH_ready (rs := [9]) (by kernel_rfl) (by simp) (AllReadyH.cons rfl (fun K hK => ?_) AllReadyH.nil)
  go_simp
  refine hK _ _ ((World.cell?_setCell_far _ ⟨y.lb, s, none⟩ _ _ hWL).trans hS) (fun hS => ?_)
  clear hK K
  try simp only [List.getElem_toArray, List.getElem_cons_zero, List.getElem_cons_succ, Act.put, List.setIfInBounds_toArray, List.set_cons_zero, List.set_cons_succ]
  refine wpAnyH_done (by kernel_rfl) ?_ _
  go_upto_region 8 with (fail)
  have hB5 : Below w4.heap.size w4 w5 := (below_drew w4).trans hb5
  have hst := HW4.out.setL hB5 h1 h2 hE5
  have hLO : y.lb ≠ w.heap.size := fun e => by have := HW4.out.tl (fun h => h); rw [e, HTG.out] at this; exact absurd this (by decide)
  have hz4 : w.heap.size < w4.heap.size := HO4.out.lt
  obtain ⟨tg2, htg2⟩ : ∃ t, tgNew tg w4 w5 100 = t := ⟨_, rfl⟩
  have hOB2 : tg2 w.heap.size = 0 := by
    rw [← htg2]
    unfold tgNew
    rw [if_neg (by omega)]
    exact HTG.out
  have hL5 : LsAt (w5.setCell ⟨y.lb, s, none⟩ (.slice A5 c.p.log.length c5)) (fun b => tg2 b = 100) (.slice A c.out.length cap) c.out := by
    refine (ls_far (HL4.out.keep (w' := w5) (K' := fun b => tg b = 100) (fun b hb => hB5.block b (HW4.out.lt b (by have hb : tg b = 100 := hb; omega))) (fun _ h => h)) (p := ⟨y.lb, s, none⟩) (fun e => by have e : tg y.lb = 100 := e; rw [HW4.out.tl (fun h => h)] at e; exact absurd e (by decide)) _).keep (fun _ _ => rfl) (fun b hb => ?_)
    have hb : tg b = 100 := hb
    show tg2 b = 100
    rw [← htg2, tgNew_old HW4.out.lt (by omega), hb]
  rw [htg2] at hst
  clear htg2
  have hO5 := (HO4.out.below hB5 hz4).far (p := ⟨y.lb, s, none⟩) (fun e => hLO e.symm) (.slice A5 c.p.log.length c5)
  obtain ⟨la2, hla2⟩ : ∃ x, setAt y.la s (A5, c5) = x := ⟨_, rfl⟩
  rw [hla2] at hst
  clear hla2
  have HW6 := Lib.hid hst.1
  have HO6 := Lib.hid hO5
  have HL6 := Lib.hid hL5
  have HB6 := Lib.hid (HB4.out.trans hst.2)
  have HTG6 := Lib.hid hOB2
  clear b0 b1 b2 b3 b4 b5 b6 b7 o0 o1 o2 o3 o4 cp ct cv cl hst HB4 HW4 HO4 HL4 hb5 hE5 hl5 cl5 fl5 hB5 hLO hz4 hOB2 hL5 hO5 hLg hFr
  generalize (w5.setCell ⟨y.lb, s, none⟩ (.slice A5 c.p.log.length c5)) = w6 at *
  obtain ⟨b0, b1, b2, b3, b4, b5, b6, b7⟩ := (HW6).out.cells
  obtain ⟨o0, o1, o2, o3, o4⟩ := cells5 (HO6).out
  have cp := ((HW6).out.pk (fun h => h)).cell h1 h2 (fun h => h)
  have ct := ((HW6).out.tk (fun h => h)).cell h1 h2 trivial
  have cv := ((HW6).out.vk (fun h => h)).cell h1 h2 trivial
  have cl := ((HW6).out.lk (fun h => h)).cell h1 h2 trivial
  dsimp only at b0 b1 b2 b3 b4 b5 b6 b7 cp ct cv cl
  rw [setAt_same] at cl
  go_cut [107] (fun v wx => v = .bool false ∧ wx = w6)
  case first =>
    as_aux_lemma =>
    have e1 := HK.out.f
    by_cases e2 : c.frm = 0
    · have e3 := e1 e2
      have d2 : (c.frm == 0) = true := by simp [e2]
      have d3 : (((c.p.log.length : Nat) : Int) == ((k.L s).length : Int)) = true := by simp [e3]
      have d4 : (((c.p.log.length : Nat) : Int) != ((k.L s).length : Int)) = false := by simp [e3]
      clear e1 e2 e3
      go_wp2_with fail
      go_meet
      exact ⟨rfl, rfl⟩
    · have d2 : (c.frm == 0) = false := by simp [e2]
      clear e1 e2
      go_wp2_with fail
      go_meet
      exact ⟨rfl, rfl⟩
  case rest =>
  obtain ⟨rfl, hwc⟩ := hcut
  obtain rfl := hwc.symm
  as_aux_lemma =>
  go_upto_region 10 with (fail)
  go_cut [] (fun wx => ∃ (tg3 : Nat → Int) (lv3 : Value), WmAt wx n tg3 { y with la := la2, lv := lv3 } prs { k with T := setAt k.T s c.p.T, V := setAt k.V s c.p.V, L := setAt k.L s c.p.log, net := k.net ++ c.out } ∧ Goes tg2 tg3 w6 wx)
  case first =>
    as_aux_lemma =>
    have hN := HW6.out.net (fun h => h)
    have hLK := HK.out.net
    have hOL := HK.out.out
    have f5 : w6.frozen? ⟨y.WB, 5, none⟩ = false := (HW6.out.wb (fun h => h)).frozen 5
    obtain ⟨i0, hi, hz, hz1, hz2⟩ := info_parts infoLt
    by_cases ho : c.out = []
    · obtain ⟨nA, ncap, hn1, hn2, hn3⟩ := hN.form
      have e0 := Lib.hid (show c.out.length = 0 by rw [ho]; rfl)
      have hWn := HW6.out.netSet (v' := .slice nA k.net.length ncap) (ls := k.net ++ c.out) (by rw [ho, List.append_nil, ← hn1]; exact hN)
      have HWN := Lib.hid hWn
      dsimp only at hn1
      rw [hn1] at b5
      clear hn1 hN hWn ho
      go_region_law (first
        | (refine step_append_none _ (by rfl) (.tmp 112) (.tmp 114) 33 (by rfl) 40 i0 Try.underlying33 hi nA A _ ncap cap _ hn2 e0.out (by rfl) (by rfl) ?_))
      all_goals
        go_wp2_with fail
        go_meet
        exact ⟨tg2, _, HWN.out.1.below (fun h => h) (below_drew _), HWN.out.2.trans (Goes.of_below (below_drew _))⟩
    · obtain ⟨g, o, ds, hn1, hn2, hn3, hn4⟩ := hN
      dsimp only at hn1 hn2 hn3 hn4
      obtain ⟨g2, ds2, hr2, hd2, hK2, he2⟩ := HL6.out
      have hlt : 0 < c.out.length := List.length_pos_iff.2 ho
      obtain rfl : A = some ⟨g2, 0, none⟩ := by
        rcases hr2.2 with ⟨_, q⟩ | ⟨cap', cur, q, _⟩
        · omega
        · injection q
      have hcl := hr2.cells (by simp [Value.ownBlock])
      have hll := hr2.1
      have hg5 : ∀ b, y.lv.ownBlock = some b → tg2 b = 108 := fun b e => (HW6.out.net (fun h => h)).own e
      have hWW : tg2 y.WB = 101 := HW6.out.tW (fun h => h)
      have hWL5 := (HW6.out.wb (fun h => h))
      have HWL5 := Lib.hid hWL5
      have hHN : ∀ (i : Nat) (l : Lt En) (d : Option Addr × Nat), (k.net ++ c.out)[i]? = some l → (ds ++ ds2)[i]? = some d → Ents w6 (fun b => tg2 b = 100) d.1 d.2 l.ents := fun i l d q1 q2 => by
        rcases Nat.lt_or_ge i k.net.length with q | q
        · rw [List.getElem?_append_left q] at q1
          rw [List.getElem?_append_left (by omega)] at q2
          exact hn4 i l d q1 q2
        · rw [List.getElem?_append_right q] at q1
          rw [List.getElem?_append_right (by omega), hn2] at q2
          exact he2 _ l d q1 q2
      have HHN := Lib.hid hHN
      have HG5 := Lib.hid hg5
      have HWW := Lib.hid hWW
      have HD2 := Lib.hid (show (ds ++ ds2).length = (k.net ++ c.out).length by rw [List.length_append, List.length_append, hn2, hd2])
      have HRA := Lib.hid (rowL_app k.net c.out ds ds2 hn2)
      clear hr2 hd2 hK2 he2 hn2 hn3 hn4 hHN hg5 hWW hWL5
      go_region_law (first
        | (refine step_append_rowO _ (by rfl) (.tmp 112) (.tmp 114) 33 (by rfl) 40 i0 _ 10 _ Try.underlying33 hi hz hz1 hz2 rfl y.lv g o k.net.length (rowL k.net ds) (by rfl) (hn1.keep (fun _ => rfl)) ⟨g2, 0, none⟩ c.out.length cap (rowL c.out ds2) (by rfl) hll hcl (rowL_one _ _) ?_ ?_ hlt ?_
           · unfold maxLen; omega
           · omega
           intro v2 w7 g7 o7 hrow2 hgr hv2 hg2 hlt2
           obtain ⟨cap7, cur7, rfl, _⟩ : ∃ cap7 cur7, v2 = .slice (some ⟨g7, o7, none⟩) (k.net.length + c.out.length) cap7 ∧ w7.heap[g7]? = some (.cells cur7 40 (0, 0)) := by
             rcases hrow2.2 with ⟨q, _⟩ | ⟨cap', cur, q, q2, _⟩
             · rw [q] at hv2; cases hv2
             · exact ⟨cap', cur, q, q2⟩
           have ob3 := (hgr.block y.WB HWL5.out.lt (fun e => by have := HG5.out y.WB e.symm; rw [HWW.out] at this; exact absurd this (by decide))).trans HWL5.out
           have oc3 : w7.cell? ⟨y.WB, 5, none⟩ = some y.lv := (cell_of_row w7 y.WB 5 _ _ _ ob3).trans rfl
           have of3 : w7.frozen? ⟨y.WB, 5, none⟩ = false := frozen_blk ob3 5))
      all_goals
        go_wp2_with fail
        go_meet
        have hWn := HW6.out.netTo (below_drew _) (ls := k.net ++ c.out) HD2.out HHN.out (by rw [HRA.out, List.length_append]; exact hrow2) hgr rfl (hg2.imp (fun q => q) (fun q => q.1 ▸ q.2)) hlt2
        exact ⟨_, _, hWn.1, hWn.2⟩
  case rest =>
  obtain ⟨tg3, lv3, hW7, hG7⟩ := hcut
  as_aux_lemma =>
  have HO7 := Lib.hid (hG7.bk HTG6.out HO6.out)
  have HT7 := Lib.hid (hG7.zero HTG6.out HO6.out.lt)
  have HW7 := Lib.hid hW7
  have HB7 := Lib.hid (HB6.out.trans hG7)
  have hwp : ∃ w7, w7 = wc := ⟨_, rfl⟩
  obtain ⟨w7, e7⟩ := hwp
  subst e7
  clear b0 b1 b2 b3 b4 b5 b6 b7 o0 o1 o2 o3 o4 cp ct cv cl hW7 hG7 HW6 HO6 HL6 HB6
  have d2 : decide (c.p.T < 10000) = true := decide_eq_true k2
  have HLL := Lib.hid HK.out.ldl
  obtain ⟨tn, htn⟩ : ∃ tn : Nat, c.p.T = tn := ⟨c.p.T.toNat, by omega⟩
  have HTN := Lib.hid htn
  have htn1 : (tn : Int) < 10000 := by omega
  clear htn
  go_wp2_with fail
  go_loopg [126] (tn + 1) (fun gl v wr => ∃ (tg4 : Nat → Int) (dv4 : Value) (j : Nat), (j = 0 ∨ k.ld.length + j ≤ tn + 1) ∧ tn + 1 ≤ k.ld.length + j + gl ∧ WmAt wr n tg4 { y with la := la2, lv := lv3, dv := dv4 } prs { k with T := setAt k.T s c.p.T, V := setAt k.V s c.p.V, L := setAt k.L s c.p.log, net := k.net ++ c.out, ld := k.ld ++ List.replicate j 0 } ∧ Goes tg3 tg4 w7 wr)
  case atStart => exact ⟨tg3, y.dv, 0, .inl rfl, by omega, by rw [List.replicate_zero, List.append_nil]; exact HW7.out, Goes.refl _ _⟩
  case round =>
    obtain ⟨tg4, dv4, j, hj, hm, hW, hG⟩ := hrel
    have hO := hG.bk HT7.out HO7.out
    obtain ⟨o0, o1, o2, o3, o4⟩ := cells5 hO
    obtain ⟨b0, b1, b2, b3, b4, b5, b6, b7⟩ := hW.cells
    dsimp only at b0 b1 b2 b3 b4 b5 b6 b7
    obtain ⟨gd, hr⟩ := hW.ld (fun h => h)
    dsimp only at hr
    obtain ⟨dA, dc, hdv, hdc, hdm⟩ : ∃ A c, dv4 = .slice A (k.ld ++ List.replicate j 0).length c ∧ (k.ld ++ List.replicate j 0).length ≤ c ∧ c ≤ maxLen := by
      rcases hr.2 with ⟨e, e2⟩ | ⟨cap', cur', e, _, h3, h4, _⟩
      · exact ⟨none, 0, by rw [e2]; exact e, by omega, by decide⟩
      · exact ⟨_, _, e, h3, h4⟩
    obtain ⟨ll, hll⟩ : ∃ ll, ll = (k.ld ++ List.replicate j 0).length := ⟨_, rfl⟩
    have hll2 : ll = k.ld.length + j := by rw [hll]; simp
    rw [← hll] at hdv hdc
    rw [hdv] at b6
    have HWR := Lib.hid hW
    have HGR := Lib.hid hG
    have HOR := Lib.hid hO
    have HRR := Lib.hid hr
    have HDV := Lib.hid hdv
    have HLN := Lib.hid hll
    have HJ := Lib.hid hj
    have HL2 := Lib.hid hll2
    clear hW hG hO hr hdv hll hj hll2
    have HN : Hid (∀ q, WmAt (wr.drewN q) n tg4 { y with la := la2, lv := lv3, dv := dv4 } prs { k with T := setAt k.T s c.p.T, V := setAt k.V s c.p.V, L := setAt k.L s c.p.log, net := k.net ++ c.out, ld := k.ld ++ List.replicate j 0 }) := Lib.hid (fun q => HWR.out.below (fun h => h) ⟨rfl, rfl, rfl, Nat.le_refl _, fun _ _ => rfl⟩)
    have HGN : Hid (∀ q, Goes tg3 tg4 w7 (wr.drewN q)) := Lib.hid (fun q => HGR.out.trans (Goes.of_below ⟨rfl, rfl, rfl, Nat.le_refl _, fun _ _ => rfl⟩))
    have HRN : Hid (∀ q, Row (wr.drewN q) 3 1 dv4 gd (k.ld ++ List.replicate j 0).length ((k.ld ++ List.replicate j 0).map (Value.int .i64))) := Lib.hid (fun q => HRR.out.keep (fun _ => rfl))
    have HON : Hid (∀ q, Bk (wr.drewN q) w.heap.size 48 [.int .i64 c.p.T, .int .i64 c.p.V, .int .i64 c.frm, .int .i64 c.p.C, .slice A c.out.length cap]) := Lib.hid (fun q => HOR.out)
    by_cases hlt : ll ≤ tn
    · have d1 : decide ((ll : Int) ≤ c.p.T) = true := decide_eq_true (by have := HTN.out; omega)
      as_aux_lemma =>
      go_wp2_with fail
      go_quiet (fail)
      have hW8 := HN.out nq
      have hG8 := HGN.out nq
      have hr8 := HRN.out nq
      have hO8 := HON.out nq
      clear HN HGN HRN HON HWR HGR HRR HOR b0 b1 b2 b3 b4 b5 b6 b7 o0 o1 o2 o3 o4
      generalize wr.drewN nq = w8 at *
      obtain ⟨b0, b1, b2, b3, b4, b5, b6, b7⟩ := hW8.cells
      dsimp only at b0 b1 b2 b3 b4 b5 b6 b7
      rw [HDV.out] at b6
      have hgd : ∀ b, dv4.ownBlock = some b → tg4 b = 106 := hW8.td (fun h => h)
      have hWT : tg4 y.WB = 101 := hW8.tW (fun h => h)
      have hgl : ∀ b, dv4.ownBlock = some b → b < w8.heap.size := fun b e => hW8.lt b (by rw [hgd b e]; decide)
      have hwb := hW8.wb (fun h => h)
      obtain ⟨i0, hi, hz0, hz1, hz2⟩ := info_parts infoInt
      have b6' : ∀ o, (w8.alloc o).cell? ⟨y.WB, 6, none⟩ = some (.slice dA ll dc) := fun o => (World.cell?_of_block (heap_alloc_old w8 o hwb.lt)).trans b6
      rw [← HLN.out, HDV.out] at hr8
      rw [HDV.out] at hgd hgl
      have HWB := Lib.hid hwb
      have HGD := Lib.hid hgd
      have HGL := Lib.hid hgl
      have HWT := Lib.hid hWT
      have HW8 := Lib.hid hW8
      have HG8 := Lib.hid hG8
      have hllm : ll ≤ 10001 := by have := HLL.out; have := HJ.out; have := HL2.out; omega
      have HLT := Lib.hid hlt
      clear hwb hgd hgl hWT hW8 hG8 hO8 hlt
      go_wp2_with (at_builtin; refine wpList_append_row _ (by rfl) (.tmp 135) (.tmp 136) 31 (by rfl) 3 i0 _ 1 8 Try.underlying31 hi hz0 hz1 hz2 rfl (.slice dA ll dc) gd ll ((k.ld ++ List.replicate j 0).map (Value.int .i64)) (by rfl) (hr8.keep (fun e => heap_alloc_old w8 _ (HGL.out _ e))) ⟨w8.heap.size, 0, none⟩ 1 1 [.int .i64 0] (by rfl) rfl (news_new w8 [.int .i64 0] 3) (fun u hu => by simp at hu; subst hu; rfl) (by unfold maxLen; omega) (by omega) (by decide) ?_; intro v9 w9 g9 hrow9 hgr9 hv9 hg9 hlt9; obtain ⟨cap9, rfl⟩ := hrow9.form hv9; have ob9 := (hgr9.block y.WB (by simp; exact Nat.lt_succ_of_lt HWB.out.lt) (fun e => by have := HGD.out y.WB e.symm; rw [HWT.out] at this; exact absurd this (by decide))).trans ((heap_alloc_old w8 _ HWB.out.lt).trans HWB.out); have oc9 : w9.cell? ⟨y.WB, 6, none⟩ = some dv4 := (cell_of_row w9 y.WB 6 _ _ _ ob9).trans rfl; have of9 : w9.frozen? ⟨y.WB, 6, none⟩ = false := frozen_blk ob9 6)
      have hg1 : 1 ≤ gk := by have := HL2.out; have := HLT.out; omega
      go_roundg (gk - 1)
      · have hWn := HW8.out.ldTo (wb := w8.alloc (.cells #[.int .i64 0] 3)) ((Below.refl _ _).alloc (Nat.le_refl _) _) (xs := k.ld ++ List.replicate (j + 1) 0) (v' := .slice (some ⟨g9, 0, none⟩) (ll + 1) cap9) (g' := g9) (by
          have e1 : k.ld ++ List.replicate (j + 1) (0 : Int) = (k.ld ++ List.replicate j 0) ++ [0] := by rw [List.replicate_succ', List.append_assoc]
          rw [e1, List.length_append, ← HLN.out, List.map_append]
          exact hrow9) (by rw [show ({ y with la := la2, lv := lv3, dv := dv4 } : Ly).dv = dv4 from rfl, HDV.out]; exact hgr9) rfl (hg9.imp (fun q => q) (fun q => by rw [show ({ y with la := la2, lv := lv3, dv := dv4 } : Ly).dv = dv4 from rfl, HDV.out]; exact q.1 ▸ q.2)) hlt9
        exact ⟨_, _, j + 1, .inr (by have := HL2.out; have := HLT.out; omega), by omega, hWn.1, HG8.out.trans hWn.2⟩
      · omega
    · as_aux_lemma =>
      have d1 : decide ((ll : Int) ≤ c.p.T) = false := decide_eq_false (by have := HTN.out; omega)
      go_wp2_with fail
      go_quiet (fail)
      have hW8 := HN.out nq
      have HT8 := Lib.hid ((HGN.out nq).zero HT7.out HO7.out.lt)
      have hG8 := HB7.out.trans (HGN.out nq)
      have hO8 := HON.out nq
      clear HN HGN HRN HON HWR HGR HRR HOR b0 b1 b2 b3 b4 b5 b6 b7 o0 o1 o2 o3 o4
      generalize wr.drewN nq = w8 at *
      have hpad : k.ld ++ List.replicate j 0 = padL k.ld (c.p.T.toNat + 1) := by
        unfold padL
        congr 2
        have := HTN.out
        have := HL2.out
        have := HJ.out
        omega
      rw [hpad] at hW8
      have HW8 := Lib.hid hW8
      have HG8 := Lib.hid hG8
      have HO8 := Lib.hid hO8
      clear hW8 hG8 hO8 hpad HLN HDV HJ HL2 HLL hm hdc hdm hlt d1 d2
      obtain ⟨b0, b1, b2, b3, b4, b5, b6, b7⟩ := HW8.out.cells
      dsimp only at b0 b1 b2 b3 b4 b5 b6 b7
      obtain ⟨o0, o1, o2, o3, o4⟩ := cells5 HO8.out
      obtain ⟨gd2, hr⟩ := HW8.out.ld (fun h => h)
      dsimp only at hr
      obtain ⟨lp, hlp⟩ : ∃ lp, (padL k.ld (c.p.T.toNat + 1)).length = lp := ⟨_, rfl⟩
      have hlp2 : c.p.T.toNat < lp := by have := pad_len k.ld (c.p.T.toNat + 1); omega
      obtain ⟨dc2, hdv2⟩ : ∃ dc2, dv4 = .slice (some ⟨gd2, 0, none⟩) lp dc2 := by
        rcases hr.2 with ⟨e, e2⟩ | ⟨cap', cur', e, _, h3, h4, _⟩
        · omega
        · exact ⟨cap', by rw [e, hlp]⟩
      rw [hdv2] at b6
      have hpe : PeA w8 (y.P s) n s (y.m s) (fun _ => False) ⟨c.p, y.frm s, []⟩ := by have := HW8.out.pe s h1 h2 (fun h => h); rw [HC.out] at this; exact this
      obtain ⟨rb, hrb⟩ : ∃ rb, (c.p.role == 3) = rb := ⟨_, rfl⟩
      have HLd : ∀ q, Calls Try.prog 15 #[.pointer (some ⟨y.P s, 0, none⟩)] (w8.drewN q) fun e w' => e = .returned (.bool rb) ∧ w' = w8.drewN q := fun q => by rw [← hrb]; exact (leads_any (w := w8.drewN q) (hpe.below (w' := w8.drewN q) ⟨rfl, rfl, rfl, Nat.le_refl _, fun _ _ => rfl⟩) (show (0 : Int) < (s : Int) by omega)).mono (fun e w' h => ⟨h.1, h.2.symm⟩)
      have HRR := Lib.hid hr
      have HLP := Lib.hid hlp
      have HLP2 := Lib.hid hlp2
      have HDV2 := Lib.hid hdv2
      have d3 : decide (c.p.T < (lp : Int)) = true := decide_eq_true (by omega)
      have HRB := Lib.hid hrb
      clear hr hlp hlp2 hdv2 hpe hrb
      go_upto_region 13 with (fail)
      go_cut [151] (fun v wx => v = .bool rb ∧ ∃ q, wx = w8.drewN q)
      case first =>
        as_aux_lemma =>
        cases rb
        all_goals
          go_quiet ((go_at_call 15; exact Calls.quiet_of_same (HLd _)))
          go_wp2_with fail
          go_meet
          exact ⟨rfl, _, rfl⟩
      case rest =>
      obtain ⟨rfl, q9, hq9⟩ := hcut
      as_aux_lemma =>
      have hW9 := HW8.out.below (fun h => h) (w' := wc) (by rw [hq9]; exact ⟨rfl, rfl, rfl, Nat.le_refl _, fun _ _ => rfl⟩)
      have hG9 := HG8.out.trans (Goes.of_below (w1 := wc) (by rw [hq9]; exact ⟨rfl, rfl, rfl, Nat.le_refl _, fun _ _ => rfl⟩))
      have hO9 : Bk wc w.heap.size 48 [.int .i64 c.p.T, .int .i64 c.p.V, .int .i64 c.frm, .int .i64 c.p.C, .slice A c.out.length cap] := by rw [hq9]; exact HO8.out
      have HR9 := Lib.hid (show Row wc 3 1 dv4 gd2 (padL k.ld (c.p.T.toNat + 1)).length ((padL k.ld (c.p.T.toNat + 1)).map (Value.int .i64)) from HRR.out.keep (fun _ => by rw [hq9]; rfl))
      have HW9 := Lib.hid hW9
      have HG9 := Lib.hid hG9
      have HO9 := Lib.hid hO9
      clear b0 b1 b2 b3 b4 b5 b6 b7 o0 o1 o2 o3 o4 hW9 hG9 hO9 hq9 HW8 HG8 HO8 HRR HLd
      obtain ⟨w9, e9⟩ : ∃ w9, w9 = wc := ⟨_, rfl⟩
      subst e9
      obtain ⟨b0, b1, b2, b3, b4, b5, b6, b7⟩ := HW9.out.cells
      dsimp only at b0 b1 b2 b3 b4 b5 b6 b7
      obtain ⟨o0, o1, o2, o3, o4⟩ := cells5 HO9.out
      rw [HDV2.out] at b6
      have htl : ∀ w', WmAt w' n tg4 { y with la := la2, lv := lv3, dv := dv4 } prs { k with T := setAt k.T s c.p.T, V := setAt k.V s c.p.V, L := setAt k.L s c.p.log, net := k.net ++ c.out, ld := padL k.ld (c.p.T.toNat + 1) } → True := fun _ _ => trivial
      clear htl
      go_upto_if 151 with (fail)
      go_cut [] (fun wx => WmAt wx n tg4 { y with la := la2, lv := lv3, dv := dv4 } prs { k with T := setAt k.T s c.p.T, V := setAt k.V s c.p.V, L := setAt k.L s c.p.log, net := k.net ++ c.out, ld := if c.p.role = 3 then (padL k.ld (c.p.T.toNat + 1)).set c.p.T.toNat s else padL k.ld (c.p.T.toNat + 1) } ∧ Goes tg4 tg4 w9 wx)
      case first =>
        cases hrc : rb
        rotate_left 1
        · as_aux_lemma =>
          have hr3 : c.p.role = 3 := by have := HRB.out; rw [hrc] at this; simpa using this
          subst hrc
          have hle := HK.out.ld hr3
          obtain ⟨v0, hv0⟩ : ∃ v0, (padL k.ld (c.p.T.toNat + 1))[c.p.T.toNat]? = some v0 := ⟨_, List.getElem?_eq_getElem (by have := HLP.out; have := HLP2.out; omega)⟩
          have hvs := hle v0 hv0
          have hTn : ((c.p.T.toNat : Nat) : Int) = c.p.T := by omega
          have hcv : w9.cell? ⟨gd2, c.p.T.toNat, none⟩ = some (.int .i64 v0) := by
            have := HR9.out.cells (by rw [HDV2.out]; simp [Value.ownBlock]) c.p.T.toNat (.int .i64 v0) (by rw [List.getElem?_map, hv0]; rfl)
            rw [addr0] at this
            exact this
          have hfz : w9.frozen? ⟨gd2, c.p.T.toNat, none⟩ = false := by
            rcases HR9.out.2 with ⟨_, e2⟩ | ⟨cap', cur', e, hg, _⟩
            · have := HLP.out; have := HLP2.out; omega
            · exact frozen_blk hg _
          have HH3 := Lib.hid hr3
          clear hr3 hle hv0
          have HVS := Lib.hid hvs
          clear hvs hTn
          have hgo : gd2 ≠ w.heap.size := fun e => by have := HW9.out.td (fun h => h) gd2 (by show dv4.ownBlock = _; rw [HDV2.out]; rfl); rw [e, HT8.out] at this; exact absurd this (by decide)
          have htl2 : c.p.T < (lp : Int) := by have := HLP2.out; omega
          go_upto_region 14 with (fail)
          go_cut [172] (fun v wx => v = .bool false ∧ ∃ q, wx = w9.drewN q)
          case first =>
            by_cases e0 : v0 = 0
            · have d5 : (v0 == 0) = true := by simp [e0]
              have d6 : (v0 != 0) = false := by simp [e0]
              clear e0
              go_quiet (fail)
              go_wp2_with fail
              go_meet
              exact ⟨rfl, _, rfl⟩
            · have e1 := HVS.out.resolve_left e0
              have d5 : (v0 == 0) = false := by simp [e0]
              have d6 : (v0 != 0) = true := by simp [e0]
              have d7 : (v0 == (s : Int)) = true := by simp [e1]
              have d8 : (v0 != (s : Int)) = false := by simp [e1]
              clear e0 e1
              go_quiet (fail)
              go_wp2_with fail
              go_meet
              exact ⟨rfl, _, rfl⟩
          case rest =>
          obtain ⟨rfl, q12, hq12⟩ := hcut
          have hbq : Below w9.heap.size w9 wc := by rw [hq12]; exact ⟨rfl, rfl, rfl, Nat.le_refl _, fun _ _ => rfl⟩
          have hW12 := HW9.out.below (fun h => h) hbq
          have hR12 := HR9.out.keep (w' := wc) (fun _ => by rw [hq12]; rfl)
          have hO12 := HO9.out.below hbq HO9.out.lt
          have hcv2 := hcv
          have hfz2 := hfz
          rw [show w9.cell? ⟨gd2, c.p.T.toNat, none⟩ = wc.cell? ⟨gd2, c.p.T.toNat, none⟩ from by rw [hq12]; rfl] at hcv2
          rw [show w9.frozen? ⟨gd2, c.p.T.toNat, none⟩ = wc.frozen? ⟨gd2, c.p.T.toNat, none⟩ from by rw [hq12]; rfl] at hfz2
          clear b0 b1 b2 b3 b4 b5 b6 b7 o0 o1 o2 o3 o4 hcv hfz hq12
          obtain ⟨b0, b1, b2, b3, b4, b5, b6, b7⟩ := hW12.cells
          dsimp only at b0 b1 b2 b3 b4 b5 b6 b7
          obtain ⟨o0, o1, o2, o3, o4⟩ := cells5 hO12
          rw [HDV2.out] at b6
          have hWst := hW12.ldSet (g0 := gd2) (j := c.p.T.toNat) hR12 (by have := HLP.out; have := HLP2.out; show c.p.T.toNat < (padL k.ld (c.p.T.toNat + 1)).length; omega) (s : Int)
          have HWS := Lib.hid hWst
          have HBQ := Lib.hid (Goes.of_below (tg := tg4) hbq)
          obtain ⟨w12, e12⟩ : ∃ w12, w12 = wc := ⟨_, rfl⟩
          subst e12
          clear hW12 hR12 hO12 hWst hbq
          go_upto_region 16 with (fail)
          go_still_tail 7, (by kernel_rfl)
          go_wp2_with fail
          go_meet
          rw [if_pos HH3.out]
          exact ⟨HWS.out.1.below (fun h => h) (below_drew _), HBQ.out.trans (HWS.out.2.trans (Goes.of_below (below_drew _)))⟩
        · have hr3 : ¬ c.p.role = 3 := by have := HRB.out; rw [hrc] at this; simpa using this
          subst hrc
          have HH3 := Lib.hid hr3
          clear hr3
          go_wp2_with fail
          go_meet
          rw [if_neg HH3.out]
          exact ⟨HW9.out, Goes.refl _ _⟩
      case rest =>
      obtain ⟨hW10, hG10⟩ := hcut
      as_aux_lemma =>
      have HW10 := Lib.hid hW10
      have HG10 := Lib.hid (HG9.out.trans hG10)
      have hO10 := hG10.bk HT8.out HO9.out
      clear b0 b1 b2 b3 b4 b5 b6 b7 o0 o1 o2 o3 o4 hW10 hG10
      obtain ⟨o0, o1, o2, o3, o4⟩ := cells5 hO10
      obtain ⟨cn, hcn1, hcn⟩ : ∃ cn : Nat, c.p.C.toNat = cn ∧ c.p.C = cn := ⟨c.p.C.toNat, rfl, by have := HK.out.c0; omega⟩
      have hcl := HK.out.c1
      have hai := HW10.out.agI h1 h2
      dsimp only at hai
      rw [setAt_same] at hai
      have hAg := agreed_any s cn hai rfl rfl (by omega) (by omega) (by omega) (by have := HK.out.len; omega) (by have := HK.out.sul; omega) (fun i q1 q2 => HK.out.su i (by omega) q2)
      rw [← hcn] at hAg
      have HCN := Lib.hid hcn1
      clear hcn hcn1 hai hO10 hcl
      go_wp2_with fail
      (with_reducible refine hAg.mono ?_)
      rintro _ w11 ⟨rfl, sv', hA⟩
      clear hAg
      go_wp2_with fail
      go_ret
      have hS := HW10.out.suTo (s := s) (sv' := sv') (su' := sureL k.su c.p.log cn) (by dsimp only; rw [setAt_same]; exact hA)
      obtain ⟨tg6, hW11, hG11⟩ := hS
      refine ⟨rfl, tg6, la2, lv3, dv4, sv', ?_, HG10.out.trans hG11⟩
      rw [← HCN.out] at hW11
      exact hW11
end
end Go.Proofs.Ythfofnfkopnbhaa


