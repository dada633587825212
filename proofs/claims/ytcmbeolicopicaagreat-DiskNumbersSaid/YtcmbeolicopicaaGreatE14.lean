/- disk: the document's Crash. -/
import Derived.Test.YtcmbeolicopicaaGreatE13
import Derived.Lib.MinMaxS
namespace Go.Proofs.YtcmbeolicopicaaGreat
open Go.RowKit Go.Maps Go.ChangeMaps
set_option linter.unusedVariables false
set_option linter.unusedSectionVars false
set_option linter.unusedSimpArgs false
set_option maxRecDepth 100000

/-- The first k files crashed. -/
def crL (keep : Int) (L : List FE) (k : Nat) : List FE := (L.take k).map (crF keep) ++ L.drop k
theorem crL_zero (keep : Int) (L : List FE) : crL keep L 0 = L := by simp [crL]
theorem crL_all (keep : Int) (L : List FE) : crL keep L L.length = L.map (crF keep) := by simp [crL]
theorem crL_len (keep : Int) (L : List FE) (k : Nat) : (crL keep L k).length = L.length := by simp [crL]; omega
theorem crL_at {keep : Int} {L : List FE} {k : Nat} {f : FE} (h : L[k]? = some f) : (crL keep L k)[k]? = some f := by
  obtain ⟨hl, he⟩ := List.getElem?_eq_some_iff.1 h
  unfold crL
  rw [List.getElem?_append_right (by simp; omega)]
  simp only [List.length_map, List.length_take, List.getElem?_drop]
  rw [show k + (k - min k L.length) = k by omega]
  exact h
theorem crL_succ {keep : Int} {L : List FE} {k : Nat} {f : FE} (h : L[k]? = some f) : (crL keep L k).set k (crF keep f) = crL keep L (k + 1) := by
  obtain ⟨hl, he⟩ := List.getElem?_eq_some_iff.1 h
  unfold crL
  rw [List.set_append_right _ _ (by simp; omega), List.take_add_one, h, List.drop_eq_getElem_cons hl]
  simp only [List.length_map, List.length_take, Option.toList_some, List.map_append, List.map_cons, List.map_nil, List.append_assoc]
  rw [show k - min k L.length = 0 by omega]
  rfl
theorem plc_at {L : List FE} (h : Srt L) {i : Nat} {f : FE} (hi : L[i]? = some f) : plc L f.s = i := by
  have h1 := fd_at h (fd_mem h.dis (List.mem_of_getElem? hi))
  obtain ⟨l1, l2⟩ := List.getElem?_eq_some_iff.1 h1
  obtain ⟨l3, l4⟩ := List.getElem?_eq_some_iff.1 hi
  have hp := List.pairwise_iff_getElem.1 h
  rcases Nat.lt_trichotomy (plc L f.s) i with q | q | q
  · have := hp _ _ l1 l3 q
    rw [l2, l4] at this
    exact absurd this (nm_irr _)
  · exact q
  · have := hp _ _ l3 l1 q
    rw [l2, l4] at this
    exact absurd this (nm_irr _)
theorem crL_put {keep : Int} {L : List FE} {k : Nat} {f : FE} (hs : Srt (crL keep L k)) (h : L[k]? = some f) : putF (crL keep L k) (crF keep f) = crL keep L (k + 1) := by
  have hat := crL_at (keep := keep) h
  rw [putF_set hs (f := crF keep f) (g := f) (fd_mem hs.dis (List.mem_of_getElem? hat)), show (crF keep f).s = f.s from rfl, plc_at hs hat, crL_succ h]
section
variable {B : Nat → Prop} {X n : Nat} {room : Int} {P : List RF} {v : Value} {w : World} (h : RD B X room P n v w)
include h
set_option maxHeartbeats 2000000 in
theorem rcrash_any (keep : Int) : Calls Tryz.prog 13 #[.pointer (some ⟨X, 0, none⟩), .int .i64 keep] w fun e w' => e = .returned (.tuple #[]) ∧ RDid B X room ((P.map RF.fe).map (crF keep)) n w w' := by
  have h0 : RDid B X room (crL keep (P.map RF.fe) 0) n w w := by rw [crL_zero]; exact RDid.same h (Below.refl _ _) (Nat.le_refl _) h.nn
  have hmax : P.length ≤ 1000000 := Nat.le_trans h.few h.nn
  have hBl := h.lt
  have hlen : (P.map RF.fe).length = P.length := by simp
  have HL := Lib.hid hlen
  have H0 := Lib.hid h0
  clear h h0 hlen
  generalize P.map RF.fe = L at *
  generalize hNN : P.length = N at *
  obtain ⟨i0, hi, hz0, hz1, hz2⟩ := info_parts infoU8
  go_enter Tryz.func13, Tryz.ntmps13
  go_wp2_with fail
  go_loopw [4] (fun i wr => ∃ k : Nat, k ≤ N ∧ i = .int .i64 k ∧ Hid (RDid B X room (crL keep L k) n w wr)) (fun i _ => N - (intOf i).toNat)
  case atStart => exact ⟨0, Nat.zero_le _, rfl, H0⟩
  case round =>
    clear H0
    obtain ⟨k, hk, rfl, HR⟩ := hrel
    obtain ⟨B1, hB1, ⟨P1, v1, h1, hP1⟩, hlv⟩ := HR.out
    have hl1 : P1.length = N := by rw [← HL.out, ← crL_len keep L k, ← hP1, List.length_map]
    have cX := h1.c0
    by_cases hlt : k < N
    · have d1 : decide ((k : Int) < (N : Int)) = true := decide_eq_true (by omega)
      obtain ⟨f, hf⟩ : ∃ f, P1[k]? = some f := ⟨_, List.getElem?_eq_getElem (by omega)⟩
      obtain ⟨g, c', rfl, -, -, -, -⟩ := h1.at_ hf
      obtain ⟨e0, e1, e2⟩ := h1.cs hf
      rw [hl1] at cX
      have hfl := h1.len f (List.mem_of_getElem? hf)
      unfold nmV at e0
      unfold RF.dv at e1
      have hfe : L[k]? = some f.fe := by
        obtain ⟨x, hx⟩ : ∃ x, L[k]? = some x := ⟨_, List.getElem?_eq_getElem (by have := HL.out; omega)⟩
        have := crL_at (keep := keep) hx
        rw [← hP1, fe_at hf] at this
        rw [hx, this]
      have HFE := Lib.hid hfe
      have H1 := Lib.hid h1
      have HF := Lib.hid hf
      clear hfe h1 hf
      have hkk : (f.n : Int) + min (max keep 0) ((f.l.length : Int) - (f.n : Int)) = ((crK keep f.fe : Nat) : Int) := by
        unfold crK RF.fe
        simp only
        omega
      have HKK := Lib.hid hkk
      have hkl : crK keep f.fe ≤ f.l.length := crK_le (f := f.fe) hfl.2.1
      have hfc := (H1.out.dat f (List.mem_of_getElem? HF.out)).rd.2
      clear hkk
      go_wp2_with fail
      rw [HKK.out]
      obtain ⟨kk, HKE⟩ : ∃ kk, Hid (kk = crK keep f.fe) := ⟨_, Lib.hid rfl⟩
      rw [← HKE.out] at hkl ⊢
      clear HKK
      have hkc : kk ≤ f.c := by omega
      have hb1 : Below wr.heap.size wr (wr.alloc (.cells #[.string ⟨f.s.toArray⟩, .slice f.A f.l.length f.c, .int .i64 f.n] 67)) := (Below.refl _ _).alloc (Nat.le_refl _) _
      have hx1 : Bk (wr.alloc (.cells #[.string ⟨f.s.toArray⟩, .slice f.A f.l.length f.c, .int .i64 f.n] 67)).drew wr.heap.size 67 [.string ⟨f.s.toArray⟩, .slice f.A f.l.length f.c, .int .i64 f.n] := Bk.new wr _ _
      have hb2 := hb1.drew
      have H2 := Lib.hid (H1.out.below hb2)
      have hS0 : ∀ W' : World, (∀ j, j < wr.heap.size + 1 → j ≠ g → W'.heap[j]? = (wr.alloc (.cells #[.string ⟨f.s.toArray⟩, .slice f.A f.l.length f.c, .int .i64 f.n] 67)).drew.heap[j]?) → W'.cell? ⟨X, 0, none⟩ = some (.slice (some ⟨g, 0, none⟩) N c') ∧ W'.cell? ⟨wr.heap.size, 0, none⟩ = some (.string ⟨f.s.toArray⟩) ∧ W'.cell? ⟨wr.heap.size, 1, none⟩ = some (.slice f.A f.l.length f.c) := fun W' hW => by
        have hXg : X ≠ g := fun e => H1.out.xne (by rw [e]; rfl)
        have hgl := H1.out.lt g (H1.out.own g rfl)
        have hXl := H1.out.lt X H1.out.hX
        have hc0 := H2.out.c0
        rw [hl1] at hc0
        have x0 := hx1.cell 0
        have x1 := hx1.cell 1
        simp only [List.getElem?_cons_zero, List.getElem?_cons_succ] at x0 x1
        exact ⟨(World.cell?_of_block (hW X (by omega) hXg)).trans hc0, (World.cell?_of_block (hW wr.heap.size (by omega) (by omega))).trans x0, (World.cell?_of_block (hW wr.heap.size (by omega) (by omega))).trans x1⟩
      have HS0 := Lib.hid hS0
      refine wp_region_held_drew (S := fun W' => W'.cell? ⟨X, 0, none⟩ = some (.slice (some ⟨g, 0, none⟩) N c') ∧ W'.cell? ⟨wr.heap.size, 0, none⟩ = some (.string ⟨f.s.toArray⟩) ∧ W'.cell? ⟨wr.heap.size, 1, none⟩ = some (.slice f.A f.l.length f.c)) (by kernel_rfl) (hS0 _ (fun _ _ _ => rfl)) (fun hS => ?_)
      have hws : wr.heap.size + 1 = (wr.alloc (.cells #[.string ⟨f.s.toArray⟩, .slice f.A f.l.length f.c, .int .i64 f.n] 67)).drew.heap.size := by
        show _ = (wr.alloc _).heap.size
        simp
      have HWS := Lib.hid hws
      have HB2 := Lib.hid hb2
      clear hS0 hws hb1 hb2 hx1 cX e0 e1 e2
      generalize (wr.alloc (.cells #[.string ⟨f.s.toArray⟩, .slice f.A f.l.length f.c, .int .i64 f.n] 67)).drew = WD at *
      refine wpAnyH_take (i := 0) (v := ?_) rfl (by kernel_rfl) (by kernel_rfl) (by kernel_rfl) (fun _ _ _ h => h) (Or.inl ⟨by rfl, ?_⟩) hS ?_
      rotate_left 1
      · intro w' hSw
        go_simp <;> with_reducible rfl
      try simp only [List.getElem_toArray, List.getElem_cons_zero, List.getElem_cons_succ, Act.put, List.setIfInBounds_toArray, List.set_cons_zero, List.set_cons_succ]
      refine wpAnyH_take (i := 1) (v := ?_) rfl (by kernel_rfl) (by kernel_rfl) (by kernel_rfl) (fun _ _ _ h => h) (Or.inl ⟨by rfl, ?_⟩) hS ?_
      rotate_left 1
      · intro w' hSw
        go_simp <;> with_reducible rfl
      try simp only [List.getElem_toArray, List.getElem_cons_zero, List.getElem_cons_succ, Act.put, List.setIfInBounds_toArray, List.set_cons_zero, List.set_cons_succ]
      refine wpAnyH_take (i := 2) (v := ?_) rfl (by kernel_rfl) (by kernel_rfl) (by kernel_rfl) (fun _ _ _ h => h) (Or.inl ⟨by rfl, ?_⟩) hS ?_
      rotate_left 1
      · intro w' hSw
        go_simp <;> with_reducible rfl
      try simp only [List.getElem_toArray, List.getElem_cons_zero, List.getElem_cons_succ, Act.put, List.setIfInBounds_toArray, List.set_cons_zero, List.set_cons_succ]
      refine wpAnyH_take (i := 3) (v := ?_) rfl (by kernel_rfl) (by kernel_rfl) (by kernel_rfl) (fun _ _ _ h => h) (Or.inl ⟨by rfl, ?_⟩) hS ?_
      rotate_left 1
      · intro w' hSw
        go_simp <;> with_reducible rfl
      try simp only [List.getElem_toArray, List.getElem_cons_zero, List.getElem_cons_succ, Act.put, List.setIfInBounds_toArray, List.set_cons_zero, List.set_cons_succ]
      refine wpAnyH_take (i := 4) (v := ?_) rfl (by kernel_rfl) (by kernel_rfl) (by kernel_rfl) (fun _ _ _ h => h) (Or.inl ⟨by rfl, ?_⟩) hS ?_
      rotate_left 1
      · intro w' hSw
        go_simp <;> with_reducible rfl
      try simp only [List.getElem_toArray, List.getElem_cons_zero, List.getElem_cons_succ, Act.put, List.setIfInBounds_toArray, List.set_cons_zero, List.set_cons_succ]
      refine wpAnyH_take (i := 5) (v := ?_) rfl (by kernel_rfl) (by kernel_rfl) (by kernel_rfl) (fun _ _ _ h => h) (Or.inl ⟨by rfl, ?_⟩) hS ?_
      rotate_left 1
      · intro w' hSw
        go_simp <;> with_reducible rfl
      try simp only [List.getElem_toArray, List.getElem_cons_zero, List.getElem_cons_succ, Act.put, List.setIfInBounds_toArray, List.set_cons_zero, List.set_cons_succ]
      refine wpAnyH_take (i := 6) (v := ?_) rfl (by kernel_rfl) (by kernel_rfl) (by kernel_rfl) (fun _ _ _ h => h) (Or.inl ⟨by rfl, ?_⟩) hS ?_
      rotate_left 1
      · intro w' hSw
        go_simp <;> with_reducible rfl
      try simp only [List.getElem_toArray, List.getElem_cons_zero, List.getElem_cons_succ, Act.put, List.setIfInBounds_toArray, List.set_cons_zero, List.set_cons_succ]
      refine wpAnyH_take (i := 8) (v := ?_) rfl (by kernel_rfl) (by kernel_rfl) (by kernel_rfl) (fun _ _ _ h => h) (Or.inl ⟨by rfl, ?_⟩) hS ?_
      rotate_left 1
      · intro w' hSw
        go_simp <;> with_reducible rfl
      try simp only [List.getElem_toArray, List.getElem_cons_zero, List.getElem_cons_succ, Act.put, List.setIfInBounds_toArray, List.set_cons_zero, List.set_cons_succ]
      refine wpAnyH_take (i := 9) (v := ?_) rfl (by kernel_rfl) (by kernel_rfl) (by kernel_rfl) (fun _ _ _ h => h) (Or.inl ⟨by rfl, ?_⟩) hS ?_
      rotate_left 1
      · intro w' hSw
        go_simp <;> with_reducible rfl
      try simp only [List.getElem_toArray, List.getElem_cons_zero, List.getElem_cons_succ, Act.put, List.setIfInBounds_toArray, List.set_cons_zero, List.set_cons_succ]
      refine wpAnyH_take (i := 10) (v := ?_) rfl (by kernel_rfl) (by kernel_rfl) (by kernel_rfl) (fun _ _ _ h => h) (Or.inl ⟨by rfl, ?_⟩) hS ?_
      rotate_left 1
      · intro w' hSw
        go_simp <;> with_reducible rfl
      try simp only [List.getElem_toArray, List.getElem_cons_zero, List.getElem_cons_succ, Act.put, List.setIfInBounds_toArray, List.set_cons_zero, List.set_cons_succ]
      refine wpAnyH_take (i := 11) (v := ?_) rfl (by kernel_rfl) (by kernel_rfl) (by kernel_rfl) (fun _ _ _ h => h) (Or.inl ⟨by rfl, ?_⟩) hS ?_
      rotate_left 1
      · intro w' hSw
        go_simp <;> with_reducible rfl
      try simp only [List.getElem_toArray, List.getElem_cons_zero, List.getElem_cons_succ, Act.put, List.setIfInBounds_toArray, List.set_cons_zero, List.set_cons_succ]
      refine wpAnyH_take (i := 13) (v := ?_) rfl (by kernel_rfl) (by kernel_rfl) (by kernel_rfl) (fun _ _ _ h => h) (Or.inl ⟨by rfl, ?_⟩) hS ?_
      rotate_left 1
      · intro w' hSw
        go_simp <;> with_reducible rfl
      try simp only [List.getElem_toArray, List.getElem_cons_zero, List.getElem_cons_succ, Act.put, List.setIfInBounds_toArray, List.set_cons_zero, List.set_cons_succ]
      refine wpAnyH_ready (rs := [7]) (by kernel_rfl) (by simp) (AllReadyH.cons rfl (fun K hK => ?_) AllReadyH.nil)
      go_simp
      have hb8 : Below WD.heap.size WD (WD.alloc (.cells #[] 5)) := (Below.refl _ _).alloc (Nat.le_refl _) _
      have hown := owns_new0 WD WD.heap.size 5 1 (Nat.le_refl _)
      refine hK _ _ (HS0.out _ (fun j j1 _ => hb8.block j (by have := HWS.out; omega))) (fun hS => ?_)
      clear hK K
      have hns : (WD.alloc (.cells #[] 5)).heap.size = WD.heap.size + 1 := by simp
      generalize (WD.alloc (.cells #[] 5)) = W8 at *
      try simp only [List.getElem_toArray, List.getElem_cons_zero, List.getElem_cons_succ, Act.put, List.setIfInBounds_toArray, List.set_cons_zero, List.set_cons_succ]
      refine wpAnyH_ready (rs := [12]) (by kernel_rfl) (by simp) (AllReadyH.cons rfl (fun K hK => ?_) AllReadyH.nil)
      have h8 := H2.out.below hb8
      have hrf := (h8.dat f (List.mem_of_getElem? HF.out)).rd.1
      refine step_append_ownA (by rfl) (.tmp 42) (.tmp 46) 29 (by rfl) WD.heap.size 5 i0 _ 1 1 Tryz.underlying29 hi hz0 hz1 hz2 rfl (by decide) _ 0 [] (by rfl) hown f.A kk f.c (u8s (f.l.take kk)) (by rfl) (by rw [u8s_len, List.length_take]; omega) (fun e => by have := hrf.nonone e; rw [u8s_len] at this; omega) (hrf.take kk).cells (u8s_one _) (by unfold maxLen; omega) (by omega) (by omega) ?_
      intro v9 W9 hr9 hg9
      rw [Nat.zero_add, List.nil_append] at hr9
      obtain ⟨LL, hLE⟩ : ∃ LL, Hid (LL = f.l.take kk) := ⟨_, Lib.hid rfl⟩
      have hLl : LL.length = kk := by rw [hLE.out, List.length_take]; omega
      rw [← hLE.out] at hr9
      have hr9' : W9.ownsRow WD.heap.size 5 1 v9 LL.length (u8s LL) := by rw [hLl]; exact hr9
      obtain ⟨A9, c9, rfl, hd9⟩ := own_dat hr9'
      have hb9 : Below WD.heap.size WD W9 := hb8.trans (grown_below hg9 (fun g e => Nat.le_of_eq (Option.some.inj e)) (by omega))
      have h9 := H2.out.below hb9
      obtain ⟨e90, e91, e92⟩ := h9.cs HF.out
      have z0 := h9.fz (k * 3)
      have z1 := h9.fz (k * 3 + 1)
      have z2 := h9.fz (k * 3 + 2)
      unfold nmV at e90
      unfold RF.dv at e91
      refine hK _ _ (HS0.out _ (fun j j1 _ => hb9.block j (by have := HWS.out; omega))) (fun hS => ?_)
      have H9 := Lib.hid h9
      have HLl := Lib.hid hLl
      have HD9 := Lib.hid hd9
      have HB9 := Lib.hid hb9
      clear hK K hr9 hr9' hg9 hd9 hb8 hb9 h8 hrf h9 hLl hown
      try simp only [List.getElem_toArray, List.getElem_cons_zero, List.getElem_cons_succ, Act.put, List.setIfInBounds_toArray, List.set_cons_zero, List.set_cons_succ]
      refine wpAnyH_take (i := 14) (v := ?_) rfl (by kernel_rfl) (by kernel_rfl) (by kernel_rfl) (fun _ _ _ h => h) (Or.inl ⟨by rfl, ?_⟩) hS ?_
      rotate_left 1
      · intro w' hSw
        go_simp <;> with_reducible rfl
      try simp only [List.getElem_toArray, List.getElem_cons_zero, List.getElem_cons_succ, Act.put, List.setIfInBounds_toArray, List.set_cons_zero, List.set_cons_succ]
      refine wpAnyH_take (i := 15) (v := ?_) rfl (by kernel_rfl) (by kernel_rfl) (by kernel_rfl) (fun _ _ _ h => h) (Or.inl ⟨by rfl, ?_⟩) hS ?_
      rotate_left 1
      · intro w' hSw
        go_simp <;> with_reducible rfl
      try simp only [List.getElem_toArray, List.getElem_cons_zero, List.getElem_cons_succ, Act.put, List.setIfInBounds_toArray, List.set_cons_zero, List.set_cons_succ]
      refine wpAnyH_ready (rs := [16]) (by kernel_rfl) (by simp) (AllReadyH.cons rfl (fun K hK => ?_) AllReadyH.nil)
      go_simp
      have hfar : ∀ j, j ≠ g → (((W9.setCell ⟨g, k * 3, none⟩ (.string ⟨f.s.toArray⟩)).setCell ⟨g, k * 3 + 1, none⟩ (.slice A9 LL.length c9)).setCell ⟨g, k * 3 + 2, none⟩ (.int .i64 kk)).heap[j]? = W9.heap[j]? := fun j hj =>
        (Below.heap_setCell _ _ _ j hj).trans ((Below.heap_setCell _ _ _ j hj).trans (Below.heap_setCell _ _ _ j hj))
      have h9w := H9.out.wide (B' := fun j => B1 j ∨ (wr.heap.size ≤ j ∧ j < W9.heap.size)) (fun _ q => .inl q) (fun j q => q.elim (H9.out.lt j) (fun q => q.2))
      have hfin := h9w.n3 (f' := ⟨f.s, A9, c9, LL, kk⟩) HF.out rfl ⟨by have := HLl.out; show LL.length ≤ 8388608; omega, by show kk ≤ LL.length; rw [HLl.out]; exact Nat.le_refl _⟩ (HD9.out.keep (fun _ _ _ => rfl) (Nat.le_refl _) (fun b q hl => .inl (.inr ⟨Nat.le_trans HB2.out.size q, hl⟩)))
      have hfe : (RF.mk f.s A9 c9 LL kk).fe = crF keep f.fe := by
        unfold crF
        rw [← HKE.out]
        show FE.mk f.s LL kk = FE.mk f.s (f.l.take kk) kk
        rw [hLE.out]
      rw [hfe, hP1, crL_put (by rw [← hP1]; exact H1.out.srt) HFE.out] at hfin
      have hfin2 := hfin.wide (HB2.out.trans (HB9.out.mono HB2.out.size)) (B := B1) (fun j q => q.imp id And.left)
      obtain ⟨B4, q1, q2, q3⟩ := hfin2
      have HFN : Hid (RDid B X room (crL keep L (k + 1)) n w (((W9.setCell ⟨g, k * 3, none⟩ (.string ⟨f.s.toArray⟩)).setCell ⟨g, k * 3 + 1, none⟩ (.slice A9 LL.length c9)).setCell ⟨g, k * 3 + 2, none⟩ (.int .i64 kk))) := Lib.hid ⟨B4, fun j q => (q1 j q).elim (hB1 j) (fun q => .inr (Nat.le_trans hlv.size q)), q2, hlv.trans q3 hB1⟩
      refine hK _ _ (HS0.out _ (fun j j1 j2 => (hfar j j2).trans (HB9.out.block j (by have := HWS.out; omega)))) (fun hS => ?_)
      clear hK K hfin h9w hfar q1 q2 q3
      try simp only [List.getElem_toArray, List.getElem_cons_zero, List.getElem_cons_succ, Act.put, List.setIfInBounds_toArray, List.set_cons_zero, List.set_cons_succ]
      refine wpAnyH_done (by kernel_rfl) ?_ _
      go_wp2_with fail
      go_roundw
      case rel => exact ⟨k + 1, by omega, by go_num, HFN⟩
      case measure => simp [intOf]; omega
    · have d1 : decide ((k : Int) < (N : Int)) = false := decide_eq_false (by omega)
      obtain rfl : k = N := by omega
      have HE : Hid (crL keep L k = L.map (crF keep)) := Lib.hid (by rw [← HL.out, crL_all])
      obtain ⟨A, c', rfl, -, -, -, -⟩ := h1.form
      rw [hl1] at cX
      have HRE := Lib.hid HR.out
      rw [HE.out] at HRE
      clear h1 hP1 HR
      go_wp2_with fail
      first
        | exact bodyPost_end (v := .tuple #[]) (by simp [results, Tryz.results13, go_sem]) rfl ⟨rfl, HRE.out⟩
        | exact bodyPost_ret (v := .tuple #[]) (by simp [results, Tryz.results13, go_sem]) rfl ⟨rfl, HRE.out⟩
end
end Go.Proofs.YtcmbeolicopicaaGreat

