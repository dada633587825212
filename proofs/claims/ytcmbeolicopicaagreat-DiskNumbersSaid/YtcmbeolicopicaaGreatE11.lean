/- disk: the document's Cut. -/
import Derived.Test.YtcmbeolicopicaaGreatE10
namespace Go.Proofs.YtcmbeolicopicaaGreat
open Go.RowKit Go.Maps Go.ChangeMaps
set_option linter.unusedVariables false
set_option linter.unusedSectionVars false
set_option linter.unusedSimpArgs false
set_option maxRecDepth 100000

theorem Rd.take {w : World} {K : Nat → Prop} {A : Option Addr} {c : Nat} {l : List Int} (h : Rd w K A c (u8s l)) (k : Nat) : Rd w K A c (u8s (l.take k)) := by
  refine ⟨h.1, fun hn => ?_⟩
  obtain ⟨a, e, hb, hc⟩ := h.2 (by intro e; apply hn; unfold u8s at *; rw [List.map_eq_nil_iff] at e; rw [e]; simp)
  refine ⟨a, e, hb, fun j u hu => hc j u ?_⟩
  unfold u8s at *
  rw [List.getElem?_map, List.getElem?_take] at hu
  rw [List.getElem?_map]
  split at hu
  · exact hu
  · cases hu
section
variable {B : Nat → Prop} {X n : Nat} {room : Int} {P : List RF} {v : Value} {w : World} (h : RD B X room P n v w)
include h
theorem rcut_out (s : Nm) (m : Int) (e : fd (P.map RF.fe) s = none) : Calls Tryz.prog 28 #[.pointer (some ⟨X, 0, none⟩), nmV s, .int .i64 m] w fun e w' => e = .returned (.int .i64 6) ∧ ∃ q, w' = w.drewN q := by
  have hp := place_out h e
  clear h e
  unfold nmV at *
  go_enter Tryz.func28, Tryz.ntmps28
  go_wp2_with fail
  (with_reducible refine hp.mono ?_)
  rintro _ _ ⟨rfl, q, rfl⟩
  clear hp
  go_wp2_with fail
  go_ret
  exact ⟨rfl, _, rfl⟩
set_option maxHeartbeats 1000000 in
theorem rcut_bad (s : Nm) (m : Int) {f : RF} (e : P[plc (P.map RF.fe) s]? = some f) (hs : f.s = s) (hm : ¬ (0 ≤ m ∧ m ≤ f.l.length)) : Calls Tryz.prog 28 #[.pointer (some ⟨X, 0, none⟩), nmV s, .int .i64 m] w fun e w' => e = .returned (.int .i64 2) ∧ ∃ q, w' = w.drewN q := by
  have hpl : plc (P.map RF.fe) s < P.length := (List.getElem?_eq_some_iff.1 e).1
  have hmax : P.length ≤ 1000000 := Nat.le_trans h.few h.nn
  have hp := place_in h e hs
  obtain ⟨g, c', rfl, _, _, _, _⟩ := h.at_ e
  have H := Lib.hid h
  have HE := Lib.hid e
  clear h e hs
  have hcX : ∀ q, (w.drewN q).cell? ⟨X, 0, none⟩ = some (.slice (some ⟨g, 0, none⟩) P.length c') := fun q => H.out.c0
  have hcb : ∀ q, (w.drewN q).cell? ⟨g, plc (P.map RF.fe) s * 3 + 1, none⟩ = some (.slice f.A f.l.length f.c) := fun q => (H.out.cs HE.out).2.1
  unfold nmV at *
  by_cases h0 : m < 0
  · have d1 : decide (m < 0) = true := decide_eq_true h0
    clear hm h0
    go_enter Tryz.func28, Tryz.ntmps28
    go_wp2_with fail
    (with_reducible refine hp.mono ?_)
    rintro _ _ ⟨rfl, q, rfl⟩
    clear hp
    go_wp2_with fail
    go_ret
    exact ⟨rfl, _, rfl⟩
  · have d1 : decide (m < 0) = false := decide_eq_false h0
    have d2 : decide ((f.l.length : Int) < m) = true := decide_eq_true (by omega)
    clear hm
    go_enter Tryz.func28, Tryz.ntmps28
    go_wp2_with fail
    (with_reducible refine hp.mono ?_)
    rintro _ _ ⟨rfl, q, rfl⟩
    clear hp
    have cX := hcX q
    have cb := hcb q
    clear hcX hcb
    generalize plc (P.map RF.fe) s = i at *
    generalize hW : w.drewN q = W at *
    have HW := Lib.hid hW
    clear hW
    go_wp2_with fail
    go_ret
    exact ⟨rfl, q, HW.out.symm⟩
set_option maxHeartbeats 2000000 in
theorem rcut_ok (s : Nm) (k : Nat) {f : RF} (e : P[plc (P.map RF.fe) s]? = some f) (hs : f.s = s) (hk : k ≤ f.l.length) : Calls Tryz.prog 28 #[.pointer (some ⟨X, 0, none⟩), nmV s, .int .i64 k] w fun e w' => e = .returned (.int .i64 0) ∧ RDid B X room (putF (P.map RF.fe) ⟨f.s, f.l.take k, k⟩) n w w' := by
  have hpl : plc (P.map RF.fe) s < P.length := (List.getElem?_eq_some_iff.1 e).1
  have hmax : P.length ≤ 1000000 := Nat.le_trans h.few h.nn
  have hp := place_in h e hs
  obtain ⟨g, c', rfl, _, _, _, _⟩ := h.at_ e
  have hf8 := (h.len f (List.mem_of_getElem? e)).1
  have hfc := (h.dat f (List.mem_of_getElem? e)).rd.2
  have H := Lib.hid h
  have HE := Lib.hid e
  have HS0 := Lib.hid hs
  clear h e hs
  have d1 : decide ((k : Int) < 0) = false := decide_eq_false (by omega)
  have d2 : decide ((f.l.length : Int) < (k : Int)) = false := decide_eq_false (by omega)
  have hkc : k ≤ f.c := by omega
  obtain ⟨i0, hi, hz0, hz1, hz2⟩ := info_parts infoU8
  unfold nmV at *
  go_enter Tryz.func28, Tryz.ntmps28
  go_wp2_with fail
  (with_reducible refine hp.mono ?_)
  rintro _ _ ⟨rfl, q, rfl⟩
  clear hp
  have hb1 : Below w.heap.size w (w.drewN q) := below_drewN (Below.refl _ _) q
  have h1 := H.out.below hb1
  have cX := h1.c0
  have cb := (h1.cs HE.out).2.1
  unfold RF.dv at cb
  clear h1
  generalize plc (P.map RF.fe) s = i at *
  generalize w.drewN q = W at *
  go_wp2_with fail
  have hb2 := hb1.drew
  have H2 := Lib.hid (H.out.below hb2)
  have cX2 : W.drew.cell? ⟨X, 0, none⟩ = some (.slice (some ⟨g, 0, none⟩) P.length c') := cX
  refine wp_region_held_drew (S := fun w' => w'.cell? ⟨X, 0, none⟩ = some (.slice (some ⟨g, 0, none⟩) P.length c')) (by kernel_rfl) cX2 (fun hS => ?_)
  have HB := Lib.hid hb2
  clear hb1 hb2 cX cb
  generalize W.drew = WD at *
  have cb := (H2.out.cs HE.out).2.1
  unfold RF.dv at cb
  refine wpAnyH_take (i := 0) (v := ?_) rfl (by kernel_rfl) (by kernel_rfl) (by kernel_rfl) (fun _ _ _ h => h) (Or.inl ⟨by rfl, ?_⟩) hS ?_
  rotate_left 1
  · intro w' hSw
    go_simp <;> with_reducible rfl
  try simp only [List.getElem_toArray, List.getElem_cons_zero, List.getElem_cons_succ, Act.put, List.setIfInBounds_toArray, List.set_cons_zero, List.set_cons_succ]
  refine wpAnyH_take (i := 1) (v := ?_) rfl (by kernel_rfl) (by kernel_rfl) (by kernel_rfl) (fun _ _ _ h => h) (Or.inl ⟨by rfl, ?_⟩) hS ?_
  rotate_left 1
  · intro w' hSw
    go_simp <;> with_reducible rfl
  try simp only [List.getElem_toArray, List.getElem_cons_zero, List.getElem_cons_succ, Act.put, List.setIfInBounds_toArray, List.set_cons_zero, List.set_cons_succ]
  refine wpAnyH_take (i := 2) (v := ?_) rfl (by kernel_rfl) (by kernel_rfl) (by kernel_rfl) (fun _ _ _ h => h) (Or.inl ⟨by rfl, ?_⟩) hS ?_
  rotate_left 1
  · intro w' hSw
    go_simp <;> with_reducible rfl
  try simp only [List.getElem_toArray, List.getElem_cons_zero, List.getElem_cons_succ, Act.put, List.setIfInBounds_toArray, List.set_cons_zero, List.set_cons_succ]
  refine wpAnyH_take (i := 3) (v := ?_) rfl (by kernel_rfl) (by kernel_rfl) (by kernel_rfl) (fun _ _ _ h => h) (Or.inl ⟨by rfl, ?_⟩) hS ?_
  rotate_left 1
  · intro w' hSw
    go_simp <;> with_reducible rfl
  try simp only [List.getElem_toArray, List.getElem_cons_zero, List.getElem_cons_succ, Act.put, List.setIfInBounds_toArray, List.set_cons_zero, List.set_cons_succ]
  refine wpAnyH_take (i := 4) (v := ?_) rfl (by kernel_rfl) (by kernel_rfl) (by kernel_rfl) (fun _ _ _ h => h) (Or.inl ⟨by rfl, ?_⟩) hS ?_
  rotate_left 1
  · intro w' hSw
    go_simp <;> with_reducible rfl
  try simp only [List.getElem_toArray, List.getElem_cons_zero, List.getElem_cons_succ, Act.put, List.setIfInBounds_toArray, List.set_cons_zero, List.set_cons_succ]
  refine wpAnyH_take (i := 5) (v := ?_) rfl (by kernel_rfl) (by kernel_rfl) (by kernel_rfl) (fun _ _ _ h => h) (Or.inl ⟨by rfl, ?_⟩) hS ?_
  rotate_left 1
  · intro w' hSw
    go_simp <;> with_reducible rfl
  try simp only [List.getElem_toArray, List.getElem_cons_zero, List.getElem_cons_succ, Act.put, List.setIfInBounds_toArray, List.set_cons_zero, List.set_cons_succ]
  refine wpAnyH_take (i := 7) (v := ?_) rfl (by kernel_rfl) (by kernel_rfl) (by kernel_rfl) (fun _ _ _ h => h) (Or.inl ⟨by rfl, ?_⟩) hS ?_
  rotate_left 1
  · intro w' hSw
    go_simp <;> with_reducible rfl
  try simp only [List.getElem_toArray, List.getElem_cons_zero, List.getElem_cons_succ, Act.put, List.setIfInBounds_toArray, List.set_cons_zero, List.set_cons_succ]
  refine wpAnyH_take (i := 8) (v := ?_) rfl (by kernel_rfl) (by kernel_rfl) (by kernel_rfl) (fun _ _ _ h => h) (Or.inl ⟨by rfl, ?_⟩) hS ?_
  rotate_left 1
  · intro w' hSw
    go_simp <;> with_reducible rfl
  try simp only [List.getElem_toArray, List.getElem_cons_zero, List.getElem_cons_succ, Act.put, List.setIfInBounds_toArray, List.set_cons_zero, List.set_cons_succ]
  refine wpAnyH_take (i := 9) (v := ?_) rfl (by kernel_rfl) (by kernel_rfl) (by kernel_rfl) (fun _ _ _ h => h) (Or.inl ⟨by rfl, ?_⟩) hS ?_
  rotate_left 1
  · intro w' hSw
    go_simp <;> with_reducible rfl
  try simp only [List.getElem_toArray, List.getElem_cons_zero, List.getElem_cons_succ, Act.put, List.setIfInBounds_toArray, List.set_cons_zero, List.set_cons_succ]
  refine wpAnyH_take (i := 10) (v := ?_) rfl (by kernel_rfl) (by kernel_rfl) (by kernel_rfl) (fun _ _ _ h => h) (Or.inl ⟨by rfl, ?_⟩) hS ?_
  rotate_left 1
  · intro w' hSw
    go_simp <;> with_reducible rfl
  try simp only [List.getElem_toArray, List.getElem_cons_zero, List.getElem_cons_succ, Act.put, List.setIfInBounds_toArray, List.set_cons_zero, List.set_cons_succ]
  refine wpAnyH_take (i := 11) (v := ?_) rfl (by kernel_rfl) (by kernel_rfl) (by kernel_rfl) (fun _ _ _ h => h) (Or.inl ⟨by rfl, ?_⟩) hS ?_
  rotate_left 1
  · intro w' hSw
    go_simp <;> with_reducible rfl
  try simp only [List.getElem_toArray, List.getElem_cons_zero, List.getElem_cons_succ, Act.put, List.setIfInBounds_toArray, List.set_cons_zero, List.set_cons_succ]
  refine wpAnyH_take (i := 12) (v := ?_) rfl (by kernel_rfl) (by kernel_rfl) (by kernel_rfl) (fun _ _ _ h => h) (Or.inl ⟨by rfl, ?_⟩) hS ?_
  rotate_left 1
  · intro w' hSw
    go_simp <;> with_reducible rfl
  try simp only [List.getElem_toArray, List.getElem_cons_zero, List.getElem_cons_succ, Act.put, List.setIfInBounds_toArray, List.set_cons_zero, List.set_cons_succ]
  refine wpAnyH_take (i := 13) (v := ?_) rfl (by kernel_rfl) (by kernel_rfl) (by kernel_rfl) (fun _ _ _ h => h) (Or.inl ⟨by rfl, ?_⟩) hS ?_
  rotate_left 1
  · intro w' hSw
    go_simp <;> with_reducible rfl
  try simp only [List.getElem_toArray, List.getElem_cons_zero, List.getElem_cons_succ, Act.put, List.setIfInBounds_toArray, List.set_cons_zero, List.set_cons_succ]
  refine wpAnyH_take (i := 15) (v := ?_) rfl (by kernel_rfl) (by kernel_rfl) (by kernel_rfl) (fun _ _ _ h => h) (Or.inl ⟨by rfl, ?_⟩) hS ?_
  rotate_left 1
  · intro w' hSw
    go_simp <;> with_reducible rfl
  try simp only [List.getElem_toArray, List.getElem_cons_zero, List.getElem_cons_succ, Act.put, List.setIfInBounds_toArray, List.set_cons_zero, List.set_cons_succ]
  refine wpAnyH_take (i := 18) (v := ?_) rfl (by kernel_rfl) (by kernel_rfl) (by kernel_rfl) (fun _ _ _ h => h) (Or.inl ⟨by rfl, ?_⟩) hS ?_
  rotate_left 1
  · intro w' hSw
    go_simp <;> with_reducible rfl
  try simp only [List.getElem_toArray, List.getElem_cons_zero, List.getElem_cons_succ, Act.put, List.setIfInBounds_toArray, List.set_cons_zero, List.set_cons_succ]
  refine wpAnyH_ready (rs := [6, 14]) (by kernel_rfl) (by simp) (AllReadyH.cons rfl (fun K hK => ?_) (AllReadyH.cons rfl (fun K hK => ?_) AllReadyH.nil))
  · go_simp
    have hb8 : Below WD.heap.size WD (WD.alloc (.cells #[] 5)) := (Below.refl _ _).alloc (Nat.le_refl _) _
    have hown := owns_new0 WD WD.heap.size 5 1 (Nat.le_refl _)
    have h8 := H2.out.below hb8
    refine hK _ _ h8.c0 (fun hS => ?_)
    clear hK K
    have cb8 := (h8.cs HE.out).2.1
    unfold RF.dv at cb8
    have hns : (WD.alloc (.cells #[] 5)).heap.size = WD.heap.size + 1 := by simp
    generalize (WD.alloc (.cells #[] 5)) = W8 at *
    try simp only [List.getElem_toArray, List.getElem_cons_zero, List.getElem_cons_succ, Act.put, List.setIfInBounds_toArray, List.set_cons_zero, List.set_cons_succ]
    refine wpAnyH_ready (rs := [14]) (by kernel_rfl) (by simp) (AllReadyH.cons rfl (fun K hK => ?_) AllReadyH.nil)
    go_simp
    refine hK _ _ hS (fun hS => ?_)
    clear hK K
    try simp only [List.getElem_toArray, List.getElem_cons_zero, List.getElem_cons_succ, Act.put, List.setIfInBounds_toArray, List.set_cons_zero, List.set_cons_succ]
    refine wpAnyH_take (i := 16) (v := ?_) rfl (by kernel_rfl) (by kernel_rfl) (by kernel_rfl) (fun _ _ _ h => h) (Or.inl ⟨by rfl, ?_⟩) hS ?_
    rotate_left 1
    · intro w' hSw
      go_simp <;> with_reducible rfl
    try simp only [List.getElem_toArray, List.getElem_cons_zero, List.getElem_cons_succ, Act.put, List.setIfInBounds_toArray, List.set_cons_zero, List.set_cons_succ]
    refine wpAnyH_ready (rs := [17]) (by kernel_rfl) (by simp) (AllReadyH.cons rfl (fun K hK => ?_) AllReadyH.nil)
    have h8 := H2.out.below hb8
    have hrf := (h8.dat f (List.mem_of_getElem? HE.out)).rd.1
    refine step_append_ownA (by rfl) (.tmp 38) (.tmp 48) 29 (by rfl) WD.heap.size 5 i0 _ 1 1 Tryz.underlying29 hi hz0 hz1 hz2 rfl (by decide) _ 0 [] (by rfl) hown f.A k f.c (u8s (f.l.take k)) (by rfl) (by rw [u8s_len, List.length_take]; omega) (fun e => by have := hrf.nonone e; rw [u8s_len] at this; omega) (hrf.take k).cells (u8s_one _) (by unfold maxLen; omega) (by omega) (by omega) ?_
    intro v9 W9 hr9 hg9
    rw [Nat.zero_add, List.nil_append] at hr9
    obtain ⟨LL, hLE⟩ : ∃ LL, Hid (LL = f.l.take k) := ⟨_, Lib.hid rfl⟩
    have hLl : LL.length = k := by rw [hLE.out, List.length_take]; omega
    rw [← hLE.out] at hr9
    have hr9' : W9.ownsRow WD.heap.size 5 1 v9 LL.length (u8s LL) := by rw [hLl]; exact hr9
    obtain ⟨A9, c9, rfl, hd9⟩ := own_dat hr9'
    have hb9 : Below WD.heap.size WD W9 := hb8.trans (grown_below hg9 (fun g e => Nat.le_of_eq (Option.some.inj e)) (by omega))
    have h9 := H2.out.below hb9
    have e9 := h9.cs HE.out
    obtain ⟨e90, e91, e92⟩ := e9
    have z0 := h9.fz (i * 3)
    have z1 := h9.fz (i * 3 + 1)
    have z2 := h9.fz (i * 3 + 2)
    unfold nmV at e90
    unfold RF.dv at e91
    refine hK _ _ h9.c0 (fun hS => ?_)
    have H9 := Lib.hid h9
    have HLl := Lib.hid hLl
    have HD9 := Lib.hid hd9
    have HB9 := Lib.hid (HB.out.trans (hb9.mono HB.out.size))
    clear hK K hr9 hr9' hg9 hd9 hb8 hb9 h8 hrf h9 hLl hown
    try simp only [List.getElem_toArray, List.getElem_cons_zero, List.getElem_cons_succ, Act.put, List.setIfInBounds_toArray, List.set_cons_zero, List.set_cons_succ]
    refine wpAnyH_take (i := 19) (v := ?_) rfl (by kernel_rfl) (by kernel_rfl) (by kernel_rfl) (fun _ _ _ h => h) (Or.inl ⟨by rfl, ?_⟩) hS ?_
    rotate_left 1
    · intro w' hSw
      go_simp <;> with_reducible rfl
    try simp only [List.getElem_toArray, List.getElem_cons_zero, List.getElem_cons_succ, Act.put, List.setIfInBounds_toArray, List.set_cons_zero, List.set_cons_succ]
    refine wpAnyH_take (i := 20) (v := ?_) rfl (by kernel_rfl) (by kernel_rfl) (by kernel_rfl) (fun _ _ _ h => h) (Or.inl ⟨by rfl, ?_⟩) hS ?_
    rotate_left 1
    · intro w' hSw
      go_simp <;> with_reducible rfl
    try simp only [List.getElem_toArray, List.getElem_cons_zero, List.getElem_cons_succ, Act.put, List.setIfInBounds_toArray, List.set_cons_zero, List.set_cons_succ]
    refine wpAnyH_ready (rs := [21]) (by kernel_rfl) (by simp) (AllReadyH.cons rfl (fun K hK => ?_) AllReadyH.nil)
    go_simp
    have hX' : (((W9.setCell ⟨g, i * 3, none⟩ (.string ⟨s.toArray⟩)).setCell ⟨g, i * 3 + 1, none⟩ (.slice A9 LL.length c9)).setCell ⟨g, i * 3 + 2, none⟩ (.int .i64 k)).cell? ⟨X, 0, none⟩ = some (.slice (some ⟨g, 0, none⟩) P.length c') := by
      have hXg : X ≠ g := fun e => H9.out.xne (by rw [e]; rfl)
      exact (World.cell?_of_block ((Below.heap_setCell _ _ _ X hXg).trans ((Below.heap_setCell _ _ _ X hXg).trans (Below.heap_setCell _ _ _ X hXg)))).trans H9.out.c0
    refine hK _ _ hX' (fun hS => ?_)
    clear hK K
    try simp only [List.getElem_toArray, List.getElem_cons_zero, List.getElem_cons_succ, Act.put, List.setIfInBounds_toArray, List.set_cons_zero, List.set_cons_succ]
    refine wpAnyH_done (by kernel_rfl) ?_ _
    go_wp2_with fail
    go_ret
    refine ⟨rfl, ?_⟩
    have h9w := H9.out.wide (B' := fun j => B j ∨ (w.heap.size ≤ j ∧ j < W9.heap.size)) (fun _ q => .inl q) (fun j q => q.elim (H9.out.lt j) (fun q => q.2))
    have hfin := h9w.n3 (f' := ⟨s, A9, c9, LL, k⟩) HE.out HS0.out.symm ⟨by have := HLl.out; show LL.length ≤ 8388608; omega, by show k ≤ LL.length; rw [HLl.out]; exact Nat.le_refl _⟩ (HD9.out.keep (fun _ _ _ => rfl) (Nat.le_refl _) (fun b q hl => .inl (.inr ⟨Nat.le_trans HB.out.size q, hl⟩)))
    rw [HS0.out, ← hLE.out]
    exact hfin.wide HB9.out (fun j q => q.imp id And.left)
  · go_simp
    refine hK _ _ hS (fun hS => ?_)
    clear hK K
    try simp only [List.getElem_toArray, List.getElem_cons_zero, List.getElem_cons_succ, Act.put, List.setIfInBounds_toArray, List.set_cons_zero, List.set_cons_succ]
    refine wpAnyH_take (i := 16) (v := ?_) rfl (by kernel_rfl) (by kernel_rfl) (by kernel_rfl) (fun _ _ _ h => h) (Or.inl ⟨by rfl, ?_⟩) hS ?_
    rotate_left 1
    · intro w' hSw
      go_simp <;> with_reducible rfl
    try simp only [List.getElem_toArray, List.getElem_cons_zero, List.getElem_cons_succ, Act.put, List.setIfInBounds_toArray, List.set_cons_zero, List.set_cons_succ]
    refine wpAnyH_ready (rs := [6]) (by kernel_rfl) (by simp) (AllReadyH.cons rfl (fun K hK => ?_) AllReadyH.nil)
    go_simp
    have hb8 : Below WD.heap.size WD (WD.alloc (.cells #[] 5)) := (Below.refl _ _).alloc (Nat.le_refl _) _
    have hown := owns_new0 WD WD.heap.size 5 1 (Nat.le_refl _)
    have h8 := H2.out.below hb8
    refine hK _ _ h8.c0 (fun hS => ?_)
    clear hK K
    have cb8 := (h8.cs HE.out).2.1
    unfold RF.dv at cb8
    have hns : (WD.alloc (.cells #[] 5)).heap.size = WD.heap.size + 1 := by simp
    generalize (WD.alloc (.cells #[] 5)) = W8 at *
    try simp only [List.getElem_toArray, List.getElem_cons_zero, List.getElem_cons_succ, Act.put, List.setIfInBounds_toArray, List.set_cons_zero, List.set_cons_succ]
    refine wpAnyH_ready (rs := [17]) (by kernel_rfl) (by simp) (AllReadyH.cons rfl (fun K hK => ?_) AllReadyH.nil)
    have h8 := H2.out.below hb8
    have hrf := (h8.dat f (List.mem_of_getElem? HE.out)).rd.1
    refine step_append_ownA (by rfl) (.tmp 38) (.tmp 48) 29 (by rfl) WD.heap.size 5 i0 _ 1 1 Tryz.underlying29 hi hz0 hz1 hz2 rfl (by decide) _ 0 [] (by rfl) hown f.A k f.c (u8s (f.l.take k)) (by rfl) (by rw [u8s_len, List.length_take]; omega) (fun e => by have := hrf.nonone e; rw [u8s_len] at this; omega) (hrf.take k).cells (u8s_one _) (by unfold maxLen; omega) (by omega) (by omega) ?_
    intro v9 W9 hr9 hg9
    rw [Nat.zero_add, List.nil_append] at hr9
    obtain ⟨LL, hLE⟩ : ∃ LL, Hid (LL = f.l.take k) := ⟨_, Lib.hid rfl⟩
    have hLl : LL.length = k := by rw [hLE.out, List.length_take]; omega
    rw [← hLE.out] at hr9
    have hr9' : W9.ownsRow WD.heap.size 5 1 v9 LL.length (u8s LL) := by rw [hLl]; exact hr9
    obtain ⟨A9, c9, rfl, hd9⟩ := own_dat hr9'
    have hb9 : Below WD.heap.size WD W9 := hb8.trans (grown_below hg9 (fun g e => Nat.le_of_eq (Option.some.inj e)) (by omega))
    have h9 := H2.out.below hb9
    have e9 := h9.cs HE.out
    obtain ⟨e90, e91, e92⟩ := e9
    have z0 := h9.fz (i * 3)
    have z1 := h9.fz (i * 3 + 1)
    have z2 := h9.fz (i * 3 + 2)
    unfold nmV at e90
    unfold RF.dv at e91
    refine hK _ _ h9.c0 (fun hS => ?_)
    have H9 := Lib.hid h9
    have HLl := Lib.hid hLl
    have HD9 := Lib.hid hd9
    have HB9 := Lib.hid (HB.out.trans (hb9.mono HB.out.size))
    clear hK K hr9 hr9' hg9 hd9 hb8 hb9 h8 hrf h9 hLl hown
    try simp only [List.getElem_toArray, List.getElem_cons_zero, List.getElem_cons_succ, Act.put, List.setIfInBounds_toArray, List.set_cons_zero, List.set_cons_succ]
    refine wpAnyH_take (i := 19) (v := ?_) rfl (by kernel_rfl) (by kernel_rfl) (by kernel_rfl) (fun _ _ _ h => h) (Or.inl ⟨by rfl, ?_⟩) hS ?_
    rotate_left 1
    · intro w' hSw
      go_simp <;> with_reducible rfl
    try simp only [List.getElem_toArray, List.getElem_cons_zero, List.getElem_cons_succ, Act.put, List.setIfInBounds_toArray, List.set_cons_zero, List.set_cons_succ]
    refine wpAnyH_take (i := 20) (v := ?_) rfl (by kernel_rfl) (by kernel_rfl) (by kernel_rfl) (fun _ _ _ h => h) (Or.inl ⟨by rfl, ?_⟩) hS ?_
    rotate_left 1
    · intro w' hSw
      go_simp <;> with_reducible rfl
    try simp only [List.getElem_toArray, List.getElem_cons_zero, List.getElem_cons_succ, Act.put, List.setIfInBounds_toArray, List.set_cons_zero, List.set_cons_succ]
    refine wpAnyH_ready (rs := [21]) (by kernel_rfl) (by simp) (AllReadyH.cons rfl (fun K hK => ?_) AllReadyH.nil)
    go_simp
    have hX' : (((W9.setCell ⟨g, i * 3, none⟩ (.string ⟨s.toArray⟩)).setCell ⟨g, i * 3 + 1, none⟩ (.slice A9 LL.length c9)).setCell ⟨g, i * 3 + 2, none⟩ (.int .i64 k)).cell? ⟨X, 0, none⟩ = some (.slice (some ⟨g, 0, none⟩) P.length c') := by
      have hXg : X ≠ g := fun e => H9.out.xne (by rw [e]; rfl)
      exact (World.cell?_of_block ((Below.heap_setCell _ _ _ X hXg).trans ((Below.heap_setCell _ _ _ X hXg).trans (Below.heap_setCell _ _ _ X hXg)))).trans H9.out.c0
    refine hK _ _ hX' (fun hS => ?_)
    clear hK K
    try simp only [List.getElem_toArray, List.getElem_cons_zero, List.getElem_cons_succ, Act.put, List.setIfInBounds_toArray, List.set_cons_zero, List.set_cons_succ]
    refine wpAnyH_done (by kernel_rfl) ?_ _
    go_wp2_with fail
    go_ret
    refine ⟨rfl, ?_⟩
    have h9w := H9.out.wide (B' := fun j => B j ∨ (w.heap.size ≤ j ∧ j < W9.heap.size)) (fun _ q => .inl q) (fun j q => q.elim (H9.out.lt j) (fun q => q.2))
    have hfin := h9w.n3 (f' := ⟨s, A9, c9, LL, k⟩) HE.out HS0.out.symm ⟨by have := HLl.out; show LL.length ≤ 8388608; omega, by show k ≤ LL.length; rw [HLl.out]; exact Nat.le_refl _⟩ (HD9.out.keep (fun _ _ _ => rfl) (Nat.le_refl _) (fun b q hl => .inl (.inr ⟨Nat.le_trans HB.out.size q, hl⟩)))
    rw [HS0.out, ← hLE.out]
    exact hfin.wide HB9.out (fun j q => q.imp id And.left)
end
end Go.Proofs.YtcmbeolicopicaaGreat

