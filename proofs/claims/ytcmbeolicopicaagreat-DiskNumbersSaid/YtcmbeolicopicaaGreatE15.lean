/- disk: the document's New, Copy. -/
import Derived.Test.YtcmbeolicopicaaGreatE14
namespace Go.Proofs.YtcmbeolicopicaaGreat
open Go.RowKit Go.Maps Go.ChangeMaps
set_option linter.unusedVariables false
set_option linter.unusedSectionVars false
set_option linter.unusedSimpArgs false
set_option maxRecDepth 100000

theorem rdk_new (w : World) (room : Int) : RD (fun j => j = w.heap.size) w.heap.size room [] 0 (.slice none 0 0) (w.alloc (.cells #[.slice none 0 0, .int .i64 room] 53)) :=
  ⟨Bk.new w _ _, ⟨rfl, .inl ⟨rfl, rfl⟩⟩, (fun g e => by cases e), rfl, (fun j e => by simp [e]), (fun f hf => by cases hf), List.Pairwise.nil, (fun f hf => by cases hf), Nat.le_refl _, by decide⟩
theorem rop_new (room : Int) (w : World) : Calls Tryz.prog 6 #[.int .i64 room] w fun e w' => ∃ X, e = .returned (.pointer (some ⟨X, 0, none⟩)) ∧ (∃ B, (∀ j, B j → w.heap.size ≤ j) ∧ RDB B X (max room 0) [] 0 w') ∧ Below w.heap.size w w' := by
  go_enter Tryz.func6, Tryz.ntmps6
  go_wp2_with fail
  go_ret
  exact ⟨w.heap.size, rfl, ⟨_, fun j e => Nat.le_of_eq e.symm, [], _, rdk_new w _, rfl⟩, (Below.refl _ _).alloc (Nat.le_refl _) _⟩
/-- What a copy has behind k files. -/
def CpR (w : World) (room : Int) (P : List RF) (n k : Nat) (wr : World) : Prop := ∃ (B2 : Nat → Prop) (P2 : List RF) (v2 : Value), (∀ j, B2 j → w.heap.size ≤ j) ∧ RD B2 w.heap.size room P2 n v2 wr ∧ P2.map RF.fe = (P.map RF.fe).take k ∧ Below w.heap.size w wr
/-- A file behind all others. -/
theorem srt_snoc {L : List FE} {k : Nat} {f : FE} (h : Srt L) (hf : L[k]? = some f) : L.take (k + 1) = L.take k ++ [f] := by rw [List.take_add_one, hf]; rfl
section
variable {B : Nat → Prop} {X n : Nat} {room : Int} {P : List RF} {v : Value} {w : World} (h : RD B X room P n v w)
include h
set_option maxHeartbeats 4000000 in
theorem rcopy_any : Calls Tryz.prog 34 #[.pointer (some ⟨X, 0, none⟩)] w fun e w' => ∃ X2, e = .returned (.pointer (some ⟨X2, 0, none⟩)) ∧ (∃ B2, (∀ j, B2 j → w.heap.size ≤ j) ∧ RDB B2 X2 room (P.map RF.fe) n w') ∧ Below w.heap.size w w' := by
  have hmax : P.length ≤ 1000000 := Nat.le_trans h.few h.nn
  have hfew := h.few
  have hnn := h.nn
  obtain ⟨i0, hi, hz0, hz1, hz2⟩ := info_parts infoU8
  obtain ⟨i1, hj, hy0, hy1, hy2⟩ := info_parts infoF
  have r0 := h.c1
  have hb1 : Below w.heap.size w (w.alloc (.cells #[.slice none 0 0, .int .i64 room] 53)) := (Below.refl _ _).alloc (Nat.le_refl _) _
  have hn1 := rdk_new w room
  have HI : Hid (CpR w room P n 0 (w.alloc (.cells #[.slice none 0 0, .int .i64 room] 53))) := Lib.hid ⟨_, _, _, fun j e => Nat.le_of_eq (Eq.symm e), hn1.mono (Nat.zero_le _) hnn, rfl, hb1⟩
  have H := Lib.hid h
  have hXl := h.lt X h.hX
  clear h hb1 hn1
  go_enter Tryz.func34, Tryz.ntmps34
  go_wp2_with fail
  generalize (w.alloc (.cells #[.slice none 0 0, .int .i64 room] 53)) = w1 at *
  go_loopw [4] (fun i wr => ∃ k : Nat, k ≤ P.length ∧ i = .int .i64 k ∧ Hid (CpR w room P n k wr)) (fun i _ => P.length - (intOf i).toNat)
  case atStart => exact ⟨0, Nat.zero_le _, rfl, HI⟩
  case round =>
    clear HI
    obtain ⟨k, hk, rfl, HR⟩ := hrel
    obtain ⟨B2, P2, v2, hB2, h2, hP2, hbw⟩ := HR.out
    have hl2 : P2.length = k := by
      have := congrArg List.length hP2
      rw [List.length_map, List.length_take, List.length_map] at this
      omega
    have h1 := H.out.below hbw
    have cX := h1.c0
    by_cases hlt : k < P.length
    · have d1 : decide ((k : Int) < (P.length : Int)) = true := decide_eq_true (by omega)
      obtain ⟨f, hf⟩ : ∃ f, P[k]? = some f := ⟨_, List.getElem?_eq_getElem hlt⟩
      obtain ⟨g, c', rfl, -, -, -, -⟩ := h1.at_ hf
      have hfl := h1.len f (List.mem_of_getElem? hf)
      have hS0 : ∀ W' : World, Below w.heap.size w W' → W'.cell? ⟨X, 0, none⟩ = some (.slice (some ⟨g, 0, none⟩) P.length c') ∧ W'.cell? ⟨g, k * 3, none⟩ = some (.string ⟨f.s.toArray⟩) ∧ W'.cell? ⟨g, k * 3 + 1, none⟩ = some (.slice f.A f.l.length f.c) ∧ W'.cell? ⟨g, k * 3 + 2, none⟩ = some (.int .i64 f.n) := fun W' hW => by
        have hq := H.out.below hW
        exact ⟨hq.c0, hq.cs hf⟩
      have HS0 := Lib.hid hS0
      have HF := Lib.hid hf
      have H2 := Lib.hid h2
      obtain ⟨A2, c2, rfl, -, -, -, -⟩ := h2.form
      have HBW := Lib.hid hbw
      have hne : X ≠ w.heap.size := by omega
      clear h1 hf h2 hS0
      go_wp2_with fail
      refine wp_region_held_drew (S := fun W' => W'.cell? ⟨X, 0, none⟩ = some (.slice (some ⟨g, 0, none⟩) P.length c') ∧ W'.cell? ⟨g, k * 3, none⟩ = some (.string ⟨f.s.toArray⟩) ∧ W'.cell? ⟨g, k * 3 + 1, none⟩ = some (.slice f.A f.l.length f.c) ∧ W'.cell? ⟨g, k * 3 + 2, none⟩ = some (.int .i64 f.n)) (by kernel_rfl) (HS0.out _ hbw.drew) (fun hS => ?_)
      have HD := Lib.hid (Below.refl wr.heap.size wr).drew
      clear cX hbw
      generalize wr.drew = WD at *
      have hds := HD.out.size
      have cN := (H2.out.below HD.out).c0
      rw [hl2] at cN
      refine wpAnyH_take (i := 0) (v := ?_) rfl (by kernel_rfl) (by kernel_rfl) (by kernel_rfl) (fun _ _ _ h => h) (Or.inl ⟨by rfl, ?_⟩) hS ?_
      rotate_left 1
      · intro w' hSw
        go_simp <;> with_reducible rfl
      try simp only [List.getElem_toArray, List.getElem_cons_zero, List.getElem_cons_succ, Act.put, List.setIfInBounds_toArray, List.set_cons_zero, List.set_cons_succ]
      refine wpAnyH_take (i := 1) (v := ?_) rfl (by kernel_rfl) (by kernel_rfl) (by kernel_rfl) (fun _ _ _ h => h) (Or.inl ⟨by rfl, ?_⟩) hS ?_
      rotate_left 1
      · intro w' hSw
        go_simp <;> with_reducible rfl
      try simp only [List.getElem_toArray, List.getElem_cons_zero, List.getElem_cons_succ, Act.put, List.setIfInBounds_toArray, List.set_cons_zero, List.set_cons_succ]
      refine wpAnyH_take (i := 2) (v := ?_) rfl (by kernel_rfl) (by kernel_rfl) (by kernel_rfl) (fun _ _ _ h => h) (Or.inl ⟨by rfl, ?_⟩) hS ?_
      rotate_left 1
      · intro w' hSw
        go_simp <;> with_reducible rfl
      try simp only [List.getElem_toArray, List.getElem_cons_zero, List.getElem_cons_succ, Act.put, List.setIfInBounds_toArray, List.set_cons_zero, List.set_cons_succ]
      refine wpAnyH_take (i := 3) (v := ?_) rfl (by kernel_rfl) (by kernel_rfl) (by kernel_rfl) (fun _ _ _ h => h) (Or.inl ⟨by rfl, ?_⟩) hS ?_
      rotate_left 1
      · intro w' hSw
        go_simp <;> with_reducible rfl
      try simp only [List.getElem_toArray, List.getElem_cons_zero, List.getElem_cons_succ, Act.put, List.setIfInBounds_toArray, List.set_cons_zero, List.set_cons_succ]
      refine wpAnyH_take (i := 5) (v := ?_) rfl (by kernel_rfl) (by kernel_rfl) (by kernel_rfl) (fun _ _ _ h => h) (Or.inl ⟨by rfl, ?_⟩) hS ?_
      rotate_left 1
      · intro w' hSw
        go_simp <;> with_reducible rfl
      try simp only [List.getElem_toArray, List.getElem_cons_zero, List.getElem_cons_succ, Act.put, List.setIfInBounds_toArray, List.set_cons_zero, List.set_cons_succ]
      refine wpAnyH_take (i := 6) (v := ?_) rfl (by kernel_rfl) (by kernel_rfl) (by kernel_rfl) (fun _ _ _ h => h) (Or.inl ⟨by rfl, ?_⟩) hS ?_
      rotate_left 1
      · intro w' hSw
        go_simp <;> with_reducible rfl
      try simp only [List.getElem_toArray, List.getElem_cons_zero, List.getElem_cons_succ, Act.put, List.setIfInBounds_toArray, List.set_cons_zero, List.set_cons_succ]
      refine wpAnyH_take (i := 7) (v := ?_) rfl (by kernel_rfl) (by kernel_rfl) (by kernel_rfl) (fun _ _ _ h => h) (Or.inl ⟨by rfl, ?_⟩) hS ?_
      rotate_left 1
      · intro w' hSw
        go_simp <;> with_reducible rfl
      try simp only [List.getElem_toArray, List.getElem_cons_zero, List.getElem_cons_succ, Act.put, List.setIfInBounds_toArray, List.set_cons_zero, List.set_cons_succ]
      refine wpAnyH_take (i := 8) (v := ?_) rfl (by kernel_rfl) (by kernel_rfl) (by kernel_rfl) (fun _ _ _ h => h) (Or.inl ⟨by rfl, ?_⟩) hS ?_
      rotate_left 1
      · intro w' hSw
        go_simp <;> with_reducible rfl
      try simp only [List.getElem_toArray, List.getElem_cons_zero, List.getElem_cons_succ, Act.put, List.setIfInBounds_toArray, List.set_cons_zero, List.set_cons_succ]
      refine wpAnyH_take (i := 9) (v := ?_) rfl (by kernel_rfl) (by kernel_rfl) (by kernel_rfl) (fun _ _ _ h => h) (Or.inl ⟨by rfl, ?_⟩) hS ?_
      rotate_left 1
      · intro w' hSw
        go_simp <;> with_reducible rfl
      try simp only [List.getElem_toArray, List.getElem_cons_zero, List.getElem_cons_succ, Act.put, List.setIfInBounds_toArray, List.set_cons_zero, List.set_cons_succ]
      refine wpAnyH_take (i := 10) (v := ?_) rfl (by kernel_rfl) (by kernel_rfl) (by kernel_rfl) (fun _ _ _ h => h) (Or.inl ⟨by rfl, ?_⟩) hS ?_
      rotate_left 1
      · intro w' hSw
        go_simp <;> with_reducible rfl
      try simp only [List.getElem_toArray, List.getElem_cons_zero, List.getElem_cons_succ, Act.put, List.setIfInBounds_toArray, List.set_cons_zero, List.set_cons_succ]
      refine wpAnyH_take (i := 11) (v := ?_) rfl (by kernel_rfl) (by kernel_rfl) (by kernel_rfl) (fun _ _ _ h => h) (Or.inl ⟨by rfl, ?_⟩) hS ?_
      rotate_left 1
      · intro w' hSw
        go_simp <;> with_reducible rfl
      try simp only [List.getElem_toArray, List.getElem_cons_zero, List.getElem_cons_succ, Act.put, List.setIfInBounds_toArray, List.set_cons_zero, List.set_cons_succ]
      refine wpAnyH_take (i := 12) (v := ?_) rfl (by kernel_rfl) (by kernel_rfl) (by kernel_rfl) (fun _ _ _ h => h) (Or.inl ⟨by rfl, ?_⟩) hS ?_
      rotate_left 1
      · intro w' hSw
        go_simp <;> with_reducible rfl
      try simp only [List.getElem_toArray, List.getElem_cons_zero, List.getElem_cons_succ, Act.put, List.setIfInBounds_toArray, List.set_cons_zero, List.set_cons_succ]
      refine wpAnyH_take (i := 14) (v := ?_) rfl (by kernel_rfl) (by kernel_rfl) (by kernel_rfl) (fun _ _ _ h => h) (Or.inl ⟨by rfl, ?_⟩) hS ?_
      rotate_left 1
      · intro w' hSw
        go_simp <;> with_reducible rfl
      try simp only [List.getElem_toArray, List.getElem_cons_zero, List.getElem_cons_succ, Act.put, List.setIfInBounds_toArray, List.set_cons_zero, List.set_cons_succ]
      refine wpAnyH_take (i := 15) (v := ?_) rfl (by kernel_rfl) (by kernel_rfl) (by kernel_rfl) (fun _ _ _ h => h) (Or.inl ⟨by rfl, ?_⟩) hS ?_
      rotate_left 1
      · intro w' hSw
        go_simp <;> with_reducible rfl
      try simp only [List.getElem_toArray, List.getElem_cons_zero, List.getElem_cons_succ, Act.put, List.setIfInBounds_toArray, List.set_cons_zero, List.set_cons_succ]
      refine wpAnyH_take (i := 16) (v := ?_) rfl (by kernel_rfl) (by kernel_rfl) (by kernel_rfl) (fun _ _ _ h => h) (Or.inl ⟨by rfl, ?_⟩) hS ?_
      rotate_left 1
      · intro w' hSw
        go_simp <;> with_reducible rfl
      try simp only [List.getElem_toArray, List.getElem_cons_zero, List.getElem_cons_succ, Act.put, List.setIfInBounds_toArray, List.set_cons_zero, List.set_cons_succ]
      refine wpAnyH_take (i := 17) (v := ?_) rfl (by kernel_rfl) (by kernel_rfl) (by kernel_rfl) (fun _ _ _ h => h) (Or.inl ⟨by rfl, ?_⟩) hS ?_
      rotate_left 1
      · intro w' hSw
        go_simp <;> with_reducible rfl
      try simp only [List.getElem_toArray, List.getElem_cons_zero, List.getElem_cons_succ, Act.put, List.setIfInBounds_toArray, List.set_cons_zero, List.set_cons_succ]
      refine wpAnyH_take (i := 18) (v := ?_) rfl (by kernel_rfl) (by kernel_rfl) (by kernel_rfl) (fun _ _ _ h => h) (Or.inl ⟨by rfl, ?_⟩) hS ?_
      rotate_left 1
      · intro w' hSw
        go_simp <;> with_reducible rfl
      try simp only [List.getElem_toArray, List.getElem_cons_zero, List.getElem_cons_succ, Act.put, List.setIfInBounds_toArray, List.set_cons_zero, List.set_cons_succ]
      refine wpAnyH_take (i := 19) (v := ?_) rfl (by kernel_rfl) (by kernel_rfl) (by kernel_rfl) (fun _ _ _ h => h) (Or.inl ⟨by rfl, ?_⟩) hS ?_
      rotate_left 1
      · intro w' hSw
        go_simp <;> with_reducible rfl
      try simp only [List.getElem_toArray, List.getElem_cons_zero, List.getElem_cons_succ, Act.put, List.setIfInBounds_toArray, List.set_cons_zero, List.set_cons_succ]
      refine wpAnyH_take (i := 20) (v := ?_) rfl (by kernel_rfl) (by kernel_rfl) (by kernel_rfl) (fun _ _ _ h => h) (Or.inl ⟨by rfl, ?_⟩) hS ?_
      rotate_left 1
      · intro w' hSw
        go_simp <;> with_reducible rfl
      try simp only [List.getElem_toArray, List.getElem_cons_zero, List.getElem_cons_succ, Act.put, List.setIfInBounds_toArray, List.set_cons_zero, List.set_cons_succ]
      refine wpAnyH_take (i := 21) (v := ?_) rfl (by kernel_rfl) (by kernel_rfl) (by kernel_rfl) (fun _ _ _ h => h) (Or.inl ⟨by rfl, ?_⟩) hS ?_
      rotate_left 1
      · intro w' hSw
        go_simp <;> with_reducible rfl
      try simp only [List.getElem_toArray, List.getElem_cons_zero, List.getElem_cons_succ, Act.put, List.setIfInBounds_toArray, List.set_cons_zero, List.set_cons_succ]
      refine wpAnyH_take (i := 23) (v := ?_) rfl (by kernel_rfl) (by kernel_rfl) (by kernel_rfl) (fun _ _ _ h => h) (Or.inl ⟨by rfl, ?_⟩) hS ?_
      rotate_left 1
      · intro w' hSw
        go_simp <;> with_reducible rfl
      try simp only [List.getElem_toArray, List.getElem_cons_zero, List.getElem_cons_succ, Act.put, List.setIfInBounds_toArray, List.set_cons_zero, List.set_cons_succ]
      refine wpAnyH_take (i := 24) (v := ?_) rfl (by kernel_rfl) (by kernel_rfl) (by kernel_rfl) (fun _ _ _ h => h) (Or.inl ⟨by rfl, ?_⟩) hS ?_
      rotate_left 1
      · intro w' hSw
        go_simp <;> with_reducible rfl
      try simp only [List.getElem_toArray, List.getElem_cons_zero, List.getElem_cons_succ, Act.put, List.setIfInBounds_toArray, List.set_cons_zero, List.set_cons_succ]
      refine wpAnyH_take (i := 25) (v := ?_) rfl (by kernel_rfl) (by kernel_rfl) (by kernel_rfl) (fun _ _ _ h => h) (Or.inl ⟨by rfl, ?_⟩) hS ?_
      rotate_left 1
      · intro w' hSw
        go_simp <;> with_reducible rfl
      try simp only [List.getElem_toArray, List.getElem_cons_zero, List.getElem_cons_succ, Act.put, List.setIfInBounds_toArray, List.set_cons_zero, List.set_cons_succ]
      refine wpAnyH_take (i := 26) (v := ?_) rfl (by kernel_rfl) (by kernel_rfl) (by kernel_rfl) (fun _ _ _ h => h) (Or.inl ⟨by rfl, ?_⟩) hS ?_
      rotate_left 1
      · intro w' hSw
        go_simp <;> with_reducible rfl
      try simp only [List.getElem_toArray, List.getElem_cons_zero, List.getElem_cons_succ, Act.put, List.setIfInBounds_toArray, List.set_cons_zero, List.set_cons_succ]
      refine wpAnyH_take (i := 27) (v := ?_) rfl (by kernel_rfl) (by kernel_rfl) (by kernel_rfl) (fun _ _ _ h => h) (Or.inl ⟨by rfl, ?_⟩) hS ?_
      rotate_left 1
      · intro w' hSw
        go_simp <;> with_reducible rfl
      try simp only [List.getElem_toArray, List.getElem_cons_zero, List.getElem_cons_succ, Act.put, List.setIfInBounds_toArray, List.set_cons_zero, List.set_cons_succ]
      refine wpAnyH_take (i := 28) (v := ?_) rfl (by kernel_rfl) (by kernel_rfl) (by kernel_rfl) (fun _ _ _ h => h) (Or.inl ⟨by rfl, ?_⟩) hS ?_
      rotate_left 1
      · intro w' hSw
        go_simp <;> with_reducible rfl
      try simp only [List.getElem_toArray, List.getElem_cons_zero, List.getElem_cons_succ, Act.put, List.setIfInBounds_toArray, List.set_cons_zero, List.set_cons_succ]
      refine wpAnyH_take (i := 29) (v := ?_) rfl (by kernel_rfl) (by kernel_rfl) (by kernel_rfl) (fun _ _ _ h => h) (Or.inl ⟨by rfl, ?_⟩) hS ?_
      rotate_left 1
      · intro w' hSw
        go_simp <;> with_reducible rfl
      try simp only [List.getElem_toArray, List.getElem_cons_zero, List.getElem_cons_succ, Act.put, List.setIfInBounds_toArray, List.set_cons_zero, List.set_cons_succ]
      refine wpAnyH_take (i := 30) (v := ?_) rfl (by kernel_rfl) (by kernel_rfl) (by kernel_rfl) (fun _ _ _ h => h) (Or.inl ⟨by rfl, ?_⟩) hS ?_
      rotate_left 1
      · intro w' hSw
        go_simp <;> with_reducible rfl
      try simp only [List.getElem_toArray, List.getElem_cons_zero, List.getElem_cons_succ, Act.put, List.setIfInBounds_toArray, List.set_cons_zero, List.set_cons_succ]
      refine wpAnyH_ready (rs := [4, 13]) (by kernel_rfl) (by simp) (AllReadyH.cons rfl (fun K hK => ?_) (AllReadyH.cons rfl (fun K hK => ?_) AllReadyH.nil))
      · go_simp
        refine hK _ _ hS (fun hS => ?_)
        clear hK K
        try simp only [List.getElem_toArray, List.getElem_cons_zero, List.getElem_cons_succ, Act.put, List.setIfInBounds_toArray, List.set_cons_zero, List.set_cons_succ]
        refine wpAnyH_ready (rs := [13]) (by kernel_rfl) (by simp) (AllReadyH.cons rfl (fun K hK => ?_) AllReadyH.nil)
        go_simp
        have hb8 : Below WD.heap.size WD (WD.alloc (.cells #[] 5)) := (Below.refl _ _).alloc (Nat.le_refl _) _
        have hown := owns_new0 WD WD.heap.size 5 1 (Nat.le_refl _)
        have hw8 := HD.out.trans (hb8.mono hds)
        refine hK _ _ (HS0.out _ (HBW.out.trans (hw8.mono HBW.out.size))) (fun hS => ?_)
        clear hK K
        have hns : (WD.alloc (.cells #[] 5)).heap.size = WD.heap.size + 1 := by simp
        have cN8 := (H2.out.below hw8).c0
        rw [hl2] at cN8
        generalize (WD.alloc (.cells #[] 5)) = W8 at *
        try simp only [List.getElem_toArray, List.getElem_cons_zero, List.getElem_cons_succ, Act.put, List.setIfInBounds_toArray, List.set_cons_zero, List.set_cons_succ]
        refine wpAnyH_ready (rs := [22]) (by kernel_rfl) (by simp) (AllReadyH.cons rfl (fun K hK => ?_) AllReadyH.nil)
        have hrf := ((H.out.below (HBW.out.trans (hw8.mono HBW.out.size))).dat f (List.mem_of_getElem? HF.out)).rd.1
        refine step_append_ownA (by rfl) (.tmp 33) (.tmp 41) 29 (by rfl) WD.heap.size 5 i0 _ 1 1 Tryz.underlying29 hi hz0 hz1 hz2 rfl (by decide) _ 0 [] (by rfl) hown f.A f.l.length f.c (u8s f.l) (by rfl) (by simp) (fun e => by have := hrf.nonone e; rw [u8s_len] at this; omega) hrf.cells (u8s_one _) (by unfold maxLen; omega) (by omega) (by omega) ?_
        intro v9 W9 hr9 hg9
        rw [Nat.zero_add, List.nil_append] at hr9
        obtain ⟨A9, c9, rfl, hd9⟩ := own_dat hr9
        have hb9 : Below WD.heap.size WD W9 := hb8.trans (grown_below hg9 (fun g e => Nat.le_of_eq (Option.some.inj e)) (by omega))
        have hw9 := HD.out.trans (hb9.mono hds)
        refine hK _ _ (HS0.out _ (HBW.out.trans (hw9.mono HBW.out.size))) (fun hS => ?_)
        clear hK K hr9 hg9 hrf hown
        have cN9 := (H2.out.below hw9).c0
        rw [hl2] at cN9
        try simp only [List.getElem_toArray, List.getElem_cons_zero, List.getElem_cons_succ, Act.put, List.setIfInBounds_toArray, List.set_cons_zero, List.set_cons_succ]
        refine wpAnyH_take (i := 31) (v := ?_) rfl (by kernel_rfl) (by kernel_rfl) (by kernel_rfl) (fun _ _ _ h => h) (Or.inl ⟨by rfl, ?_⟩) hS ?_
        rotate_left 1
        · intro w' hSw
          go_simp <;> with_reducible rfl
        try simp only [List.getElem_toArray, List.getElem_cons_zero, List.getElem_cons_succ, Act.put, List.setIfInBounds_toArray, List.set_cons_zero, List.set_cons_succ]
        refine wpAnyH_ready (rs := [32]) (by kernel_rfl) (by simp) (AllReadyH.cons rfl (fun K hK => ?_) AllReadyH.nil)
        go_simp
        have hb10 : Below W9.heap.size W9 (W9.alloc (.cells #[.string ⟨f.s.toArray⟩, .slice A9 f.l.length c9, .int .i64 f.n] 67)) := (Below.refl _ _).alloc (Nat.le_refl _) _
        have hn10 := news_new W9 [.string ⟨f.s.toArray⟩, .slice A9 f.l.length c9, .int .i64 f.n] 67
        rw [show [Value.string ⟨f.s.toArray⟩, .slice A9 f.l.length c9, .int .i64 f.n].toArray = #[Value.string ⟨f.s.toArray⟩, .slice A9 f.l.length c9, .int .i64 f.n] from rfl] at hn10
        have hw10 := hw9.trans (hb10.mono (by have := hw9.size; omega))
        have hd10 : Dat (W9.alloc (.cells #[.string ⟨f.s.toArray⟩, .slice A9 f.l.length c9, .int .i64 f.n] 67)) (fun b => WD.heap.size ≤ b) A9 c9 f.l := hd9.below hb10
        refine hK _ _ (HS0.out _ (HBW.out.trans (hw10.mono HBW.out.size))) (fun hS => ?_)
        clear hK K
        have cN10 := (H2.out.below hw10).c0
        rw [hl2] at cN10
        generalize (W9.alloc (.cells #[.string ⟨f.s.toArray⟩, .slice A9 f.l.length c9, .int .i64 f.n] 67)) = W10 at *
        try simp only [List.getElem_toArray, List.getElem_cons_zero, List.getElem_cons_succ, Act.put, List.setIfInBounds_toArray, List.set_cons_zero, List.set_cons_succ]
        refine wpAnyH_ready (rs := [33]) (by kernel_rfl) (by simp) (AllReadyH.cons rfl (fun K hK => ?_) AllReadyH.nil)
        have h10 := H2.out.below hw10
        have hrow := h10.row
        rw [hl2] at hrow
        refine step_append_full _ (by rfl) (.tmp 24) (.tmp 52) 51 (by rfl) 67 i1 _ 3 48 Tryz.underlying51 hj hy0 hy1 hy2 rfl 0 (.slice A2 k c2) k (rfV P2) (by rfl) hrow (Nat.zero_le _) ⟨W9.heap.size, 0, none⟩ 1 1 [.string ⟨f.s.toArray⟩, .slice A9 f.l.length c9, .int .i64 f.n] (by rfl) (by rfl) hn10 (fun u hu => by simp at hu; rcases hu with rfl | rfl | rfl <;> rfl) (by unfold maxLen; omega) (by omega) (by decide) ?_
        intro v11 W11 g11 hr11 hgr11 hv11 hg11
        obtain ⟨A11, c11, rfl⟩ := owns_form hr11
        have hown2 : ∀ j, (Value.slice A2 k c2).ownBlock = some j → w.heap.size ≤ j := fun j e => hB2 j (H2.out.own j (by rw [own_len A2 P2.length k c2]; exact e))
        have hs10 := hw10.size
        have hs11 := hgr11.size
        have hbw11 : Below w.heap.size w W11 := (HBW.out.trans (hw10.mono HBW.out.size)).trans (grown_below hgr11 hown2 (by have := HBW.out.size; omega))
        have hP : rfV (P2 ++ [⟨f.s, A9, c9, f.l, f.n⟩]) = rfV P2 ++ [.string ⟨f.s.toArray⟩, .slice A9 f.l.length c9, .int .i64 f.n] := by rw [rfV_app, rfV_one1]; rfl
        have hPl : (P2 ++ [(⟨f.s, A9, c9, f.l, f.n⟩ : RF)]).length = k + 1 := by simp [hl2]
        have hmap : (P2 ++ [(⟨f.s, A9, c9, f.l, f.n⟩ : RF)]).map RF.fe = (P.map RF.fe).take (k + 1) := by
          rw [srt_snoc H.out.srt (fe_at HF.out), List.map_append, hP2]; rfl
        rw [← hP, ← hPl] at hr11
        have hfar : ∀ j, j < wr.heap.size → (Value.slice A2 P2.length c2).ownBlock ≠ some j → W11.heap[j]? = wr.heap[j]? := fun j j1 j2 => (hgr11.block j (by omega) (fun e => j2 (by rw [own_len A2 P2.length k c2]; exact e.symm))).trans (hw10.block j j1)
        have hfd := H2.out.far hfar (by omega)
        have hlen11 : ∀ x ∈ P2 ++ [(⟨f.s, A9, c9, f.l, f.n⟩ : RF)], x.l.length ≤ 8388608 ∧ x.n ≤ x.l.length ∧ x.s.length ≤ 24 := fun x hx => by
          rcases List.mem_append.1 hx with hx | hx
          · exact H2.out.len x hx
          · simp at hx
            subst hx
            exact hfl
        have hd11 : Dat W11 (fun b => WD.heap.size ≤ b) A9 c9 f.l := by
          have hub : ∀ b, (WD.heap.size ≤ b ∧ UB W10 b) → b < W10.heap.size → W11.heap[b]? = W10.heap[b]? := fun b q hl => hgr11.block b hl (fun e => by
            obtain ⟨cur, hb⟩ := h10.gfile b (by rw [own_len A2 P2.length k c2]; exact e.symm)
            exact ub_ne q.2 hb (by decide) rfl)
          exact hd10.narrow.keep hub hgr11.size (fun b q _ => q.1)
        have hfin := H2.out.reset (n' := n) hr11 (fun j e => by
            rw [own_len A11 _ (k + 1), hv11] at e
            have e : g11 = j := Option.some.inj e
            subst e
            rcases hg11 with q | q
            · right; omega
            · left; rw [own_len A2 P2.length k c2]; exact q) hfar (by omega) ⟨hgr11.os.trans hw10.os, hgr11.tape.trans hw10.tape, hgr11.output.trans hw10.output⟩ (fun x hx => by
            rcases List.mem_append.1 hx with hx | hx
            · exact hfd x hx
            · simp at hx
              subst hx
              exact hd11.keep (fun _ _ _ => rfl) (Nat.le_refl _) (fun b q _ => .inr (by omega))) (by rw [hmap]; exact H.out.srt.sublist (List.take_sublist _ _)) hlen11 (by rw [hPl]; omega) hnn
        rw [hmap, hPl] at hfin
        have hbX : Bk W11 w.heap.size 53 [.slice A2 P2.length c2, .int .i64 room] := (hfar _ (H2.out.lt _ H2.out.hX) H2.out.xne).trans H2.out.bk
        have cX11 := hbX.cell 0
        have zX11 := hbX.frozen 0
        simp only [List.getElem?_cons_zero] at cX11
        have HFN : Hid (CpR w room P n (k + 1) (W11.setCell ⟨w.heap.size, 0, none⟩ (.slice A11 (k + 1) c11))) := Lib.hid (by
          obtain ⟨B4, q1, ⟨P4, v4, q2, q3⟩, q4⟩ := hfin
          exact ⟨B4, P4, v4, fun j q => (q1 j q).elim (hB2 j) (fun q => Nat.le_trans HBW.out.size q), q2, q3, hbw11.setCell (p := ⟨w.heap.size, 0, none⟩) (Nat.le_refl _) _⟩)
        have HB11 := Lib.hid hbw11
        refine hK _ _ (HS0.out _ hbw11) (fun hS => ?_)
        clear hK K hfin hbX hfd hfar hlen11 hd11 hmap hPl hP hr11 hgr11 hv11 hg11 hbw11 h10 hrow hown2 hs10 hs11
        try simp only [List.getElem_toArray, List.getElem_cons_zero, List.getElem_cons_succ, Act.put, List.setIfInBounds_toArray, List.set_cons_zero, List.set_cons_succ]
        refine wpAnyH_take (i := 34) (v := ?_) rfl (by kernel_rfl) (by kernel_rfl) (by kernel_rfl) (fun _ _ _ h => h) (Or.inl ⟨by rfl, ?_⟩) hS ?_
        rotate_left 1
        · intro w' hSw
          go_simp <;> with_reducible rfl
        try simp only [List.getElem_toArray, List.getElem_cons_zero, List.getElem_cons_succ, Act.put, List.setIfInBounds_toArray, List.set_cons_zero, List.set_cons_succ]
        refine wpAnyH_take (i := 35) (v := ?_) rfl (by kernel_rfl) (by kernel_rfl) (by kernel_rfl) (fun _ _ _ h => h) (Or.inl ⟨by rfl, ?_⟩) hS ?_
        rotate_left 1
        · intro w' hSw
          go_simp <;> with_reducible rfl
        try simp only [List.getElem_toArray, List.getElem_cons_zero, List.getElem_cons_succ, Act.put, List.setIfInBounds_toArray, List.set_cons_zero, List.set_cons_succ]
        refine wpAnyH_ready (rs := [36]) (by kernel_rfl) (by simp) (AllReadyH.cons rfl (fun K hK => ?_) AllReadyH.nil)
        go_simp
        refine hK _ _ (HS0.out _ (HB11.out.setCell (p := ⟨w.heap.size, 0, none⟩) (Nat.le_refl _) _)) (fun hS => ?_)
        clear hK K
        try simp only [List.getElem_toArray, List.getElem_cons_zero, List.getElem_cons_succ, Act.put, List.setIfInBounds_toArray, List.set_cons_zero, List.set_cons_succ]
        refine wpAnyH_done (by kernel_rfl) ?_ _
        go_wp2_with fail
        go_roundw
        case rel => exact ⟨k + 1, by omega, by go_num, HFN⟩
        case measure => simp [intOf]; omega
      · go_simp
        have hb8 : Below WD.heap.size WD (WD.alloc (.cells #[] 5)) := (Below.refl _ _).alloc (Nat.le_refl _) _
        have hown := owns_new0 WD WD.heap.size 5 1 (Nat.le_refl _)
        have hw8 := HD.out.trans (hb8.mono hds)
        refine hK _ _ (HS0.out _ (HBW.out.trans (hw8.mono HBW.out.size))) (fun hS => ?_)
        clear hK K
        have hns : (WD.alloc (.cells #[] 5)).heap.size = WD.heap.size + 1 := by simp
        have cN8 := (H2.out.below hw8).c0
        rw [hl2] at cN8
        generalize (WD.alloc (.cells #[] 5)) = W8 at *
        try simp only [List.getElem_toArray, List.getElem_cons_zero, List.getElem_cons_succ, Act.put, List.setIfInBounds_toArray, List.set_cons_zero, List.set_cons_succ]
        refine wpAnyH_ready (rs := [4, 22]) (by kernel_rfl) (by simp) (AllReadyH.cons rfl (fun K hK => ?_) (AllReadyH.cons rfl (fun K hK => ?_) AllReadyH.nil))
        · go_simp
          refine hK _ _ hS (fun hS => ?_)
          clear hK K
          try simp only [List.getElem_toArray, List.getElem_cons_zero, List.getElem_cons_succ, Act.put, List.setIfInBounds_toArray, List.set_cons_zero, List.set_cons_succ]
          refine wpAnyH_ready (rs := [22]) (by kernel_rfl) (by simp) (AllReadyH.cons rfl (fun K hK => ?_) AllReadyH.nil)
          have hrf := ((H.out.below (HBW.out.trans (hw8.mono HBW.out.size))).dat f (List.mem_of_getElem? HF.out)).rd.1
          refine step_append_ownA (by rfl) (.tmp 33) (.tmp 41) 29 (by rfl) WD.heap.size 5 i0 _ 1 1 Tryz.underlying29 hi hz0 hz1 hz2 rfl (by decide) _ 0 [] (by rfl) hown f.A f.l.length f.c (u8s f.l) (by rfl) (by simp) (fun e => by have := hrf.nonone e; rw [u8s_len] at this; omega) hrf.cells (u8s_one _) (by unfold maxLen; omega) (by omega) (by omega) ?_
          intro v9 W9 hr9 hg9
          rw [Nat.zero_add, List.nil_append] at hr9
          obtain ⟨A9, c9, rfl, hd9⟩ := own_dat hr9
          have hb9 : Below WD.heap.size WD W9 := hb8.trans (grown_below hg9 (fun g e => Nat.le_of_eq (Option.some.inj e)) (by omega))
          have hw9 := HD.out.trans (hb9.mono hds)
          refine hK _ _ (HS0.out _ (HBW.out.trans (hw9.mono HBW.out.size))) (fun hS => ?_)
          clear hK K hr9 hg9 hrf hown
          have cN9 := (H2.out.below hw9).c0
          rw [hl2] at cN9
          try simp only [List.getElem_toArray, List.getElem_cons_zero, List.getElem_cons_succ, Act.put, List.setIfInBounds_toArray, List.set_cons_zero, List.set_cons_succ]
          refine wpAnyH_take (i := 31) (v := ?_) rfl (by kernel_rfl) (by kernel_rfl) (by kernel_rfl) (fun _ _ _ h => h) (Or.inl ⟨by rfl, ?_⟩) hS ?_
          rotate_left 1
          · intro w' hSw
            go_simp <;> with_reducible rfl
          try simp only [List.getElem_toArray, List.getElem_cons_zero, List.getElem_cons_succ, Act.put, List.setIfInBounds_toArray, List.set_cons_zero, List.set_cons_succ]
          refine wpAnyH_ready (rs := [32]) (by kernel_rfl) (by simp) (AllReadyH.cons rfl (fun K hK => ?_) AllReadyH.nil)
          go_simp
          have hb10 : Below W9.heap.size W9 (W9.alloc (.cells #[.string ⟨f.s.toArray⟩, .slice A9 f.l.length c9, .int .i64 f.n] 67)) := (Below.refl _ _).alloc (Nat.le_refl _) _
          have hn10 := news_new W9 [.string ⟨f.s.toArray⟩, .slice A9 f.l.length c9, .int .i64 f.n] 67
          rw [show [Value.string ⟨f.s.toArray⟩, .slice A9 f.l.length c9, .int .i64 f.n].toArray = #[Value.string ⟨f.s.toArray⟩, .slice A9 f.l.length c9, .int .i64 f.n] from rfl] at hn10
          have hw10 := hw9.trans (hb10.mono (by have := hw9.size; omega))
          have hd10 : Dat (W9.alloc (.cells #[.string ⟨f.s.toArray⟩, .slice A9 f.l.length c9, .int .i64 f.n] 67)) (fun b => WD.heap.size ≤ b) A9 c9 f.l := hd9.below hb10
          refine hK _ _ (HS0.out _ (HBW.out.trans (hw10.mono HBW.out.size))) (fun hS => ?_)
          clear hK K
          have cN10 := (H2.out.below hw10).c0
          rw [hl2] at cN10
          generalize (W9.alloc (.cells #[.string ⟨f.s.toArray⟩, .slice A9 f.l.length c9, .int .i64 f.n] 67)) = W10 at *
          try simp only [List.getElem_toArray, List.getElem_cons_zero, List.getElem_cons_succ, Act.put, List.setIfInBounds_toArray, List.set_cons_zero, List.set_cons_succ]
          refine wpAnyH_ready (rs := [33]) (by kernel_rfl) (by simp) (AllReadyH.cons rfl (fun K hK => ?_) AllReadyH.nil)
          have h10 := H2.out.below hw10
          have hrow := h10.row
          rw [hl2] at hrow
          refine step_append_full _ (by rfl) (.tmp 24) (.tmp 52) 51 (by rfl) 67 i1 _ 3 48 Tryz.underlying51 hj hy0 hy1 hy2 rfl 0 (.slice A2 k c2) k (rfV P2) (by rfl) hrow (Nat.zero_le _) ⟨W9.heap.size, 0, none⟩ 1 1 [.string ⟨f.s.toArray⟩, .slice A9 f.l.length c9, .int .i64 f.n] (by rfl) (by rfl) hn10 (fun u hu => by simp at hu; rcases hu with rfl | rfl | rfl <;> rfl) (by unfold maxLen; omega) (by omega) (by decide) ?_
          intro v11 W11 g11 hr11 hgr11 hv11 hg11
          obtain ⟨A11, c11, rfl⟩ := owns_form hr11
          have hown2 : ∀ j, (Value.slice A2 k c2).ownBlock = some j → w.heap.size ≤ j := fun j e => hB2 j (H2.out.own j (by rw [own_len A2 P2.length k c2]; exact e))
          have hs10 := hw10.size
          have hs11 := hgr11.size
          have hbw11 : Below w.heap.size w W11 := (HBW.out.trans (hw10.mono HBW.out.size)).trans (grown_below hgr11 hown2 (by have := HBW.out.size; omega))
          have hP : rfV (P2 ++ [⟨f.s, A9, c9, f.l, f.n⟩]) = rfV P2 ++ [.string ⟨f.s.toArray⟩, .slice A9 f.l.length c9, .int .i64 f.n] := by rw [rfV_app, rfV_one1]; rfl
          have hPl : (P2 ++ [(⟨f.s, A9, c9, f.l, f.n⟩ : RF)]).length = k + 1 := by simp [hl2]
          have hmap : (P2 ++ [(⟨f.s, A9, c9, f.l, f.n⟩ : RF)]).map RF.fe = (P.map RF.fe).take (k + 1) := by
            rw [srt_snoc H.out.srt (fe_at HF.out), List.map_append, hP2]; rfl
          rw [← hP, ← hPl] at hr11
          have hfar : ∀ j, j < wr.heap.size → (Value.slice A2 P2.length c2).ownBlock ≠ some j → W11.heap[j]? = wr.heap[j]? := fun j j1 j2 => (hgr11.block j (by omega) (fun e => j2 (by rw [own_len A2 P2.length k c2]; exact e.symm))).trans (hw10.block j j1)
          have hfd := H2.out.far hfar (by omega)
          have hlen11 : ∀ x ∈ P2 ++ [(⟨f.s, A9, c9, f.l, f.n⟩ : RF)], x.l.length ≤ 8388608 ∧ x.n ≤ x.l.length ∧ x.s.length ≤ 24 := fun x hx => by
            rcases List.mem_append.1 hx with hx | hx
            · exact H2.out.len x hx
            · simp at hx
              subst hx
              exact hfl
          have hd11 : Dat W11 (fun b => WD.heap.size ≤ b) A9 c9 f.l := by
            have hub : ∀ b, (WD.heap.size ≤ b ∧ UB W10 b) → b < W10.heap.size → W11.heap[b]? = W10.heap[b]? := fun b q hl => hgr11.block b hl (fun e => by
              obtain ⟨cur, hb⟩ := h10.gfile b (by rw [own_len A2 P2.length k c2]; exact e.symm)
              exact ub_ne q.2 hb (by decide) rfl)
            exact hd10.narrow.keep hub hgr11.size (fun b q _ => q.1)
          have hfin := H2.out.reset (n' := n) hr11 (fun j e => by
              rw [own_len A11 _ (k + 1), hv11] at e
              have e : g11 = j := Option.some.inj e
              subst e
              rcases hg11 with q | q
              · right; omega
              · left; rw [own_len A2 P2.length k c2]; exact q) hfar (by omega) ⟨hgr11.os.trans hw10.os, hgr11.tape.trans hw10.tape, hgr11.output.trans hw10.output⟩ (fun x hx => by
              rcases List.mem_append.1 hx with hx | hx
              · exact hfd x hx
              · simp at hx
                subst hx
                exact hd11.keep (fun _ _ _ => rfl) (Nat.le_refl _) (fun b q _ => .inr (by omega))) (by rw [hmap]; exact H.out.srt.sublist (List.take_sublist _ _)) hlen11 (by rw [hPl]; omega) hnn
          rw [hmap, hPl] at hfin
          have hbX : Bk W11 w.heap.size 53 [.slice A2 P2.length c2, .int .i64 room] := (hfar _ (H2.out.lt _ H2.out.hX) H2.out.xne).trans H2.out.bk
          have cX11 := hbX.cell 0
          have zX11 := hbX.frozen 0
          simp only [List.getElem?_cons_zero] at cX11
          have HFN : Hid (CpR w room P n (k + 1) (W11.setCell ⟨w.heap.size, 0, none⟩ (.slice A11 (k + 1) c11))) := Lib.hid (by
            obtain ⟨B4, q1, ⟨P4, v4, q2, q3⟩, q4⟩ := hfin
            exact ⟨B4, P4, v4, fun j q => (q1 j q).elim (hB2 j) (fun q => Nat.le_trans HBW.out.size q), q2, q3, hbw11.setCell (p := ⟨w.heap.size, 0, none⟩) (Nat.le_refl _) _⟩)
          have HB11 := Lib.hid hbw11
          refine hK _ _ (HS0.out _ hbw11) (fun hS => ?_)
          clear hK K hfin hbX hfd hfar hlen11 hd11 hmap hPl hP hr11 hgr11 hv11 hg11 hbw11 h10 hrow hown2 hs10 hs11
          try simp only [List.getElem_toArray, List.getElem_cons_zero, List.getElem_cons_succ, Act.put, List.setIfInBounds_toArray, List.set_cons_zero, List.set_cons_succ]
          refine wpAnyH_take (i := 34) (v := ?_) rfl (by kernel_rfl) (by kernel_rfl) (by kernel_rfl) (fun _ _ _ h => h) (Or.inl ⟨by rfl, ?_⟩) hS ?_
          rotate_left 1
          · intro w' hSw
            go_simp <;> with_reducible rfl
          try simp only [List.getElem_toArray, List.getElem_cons_zero, List.getElem_cons_succ, Act.put, List.setIfInBounds_toArray, List.set_cons_zero, List.set_cons_succ]
          refine wpAnyH_take (i := 35) (v := ?_) rfl (by kernel_rfl) (by kernel_rfl) (by kernel_rfl) (fun _ _ _ h => h) (Or.inl ⟨by rfl, ?_⟩) hS ?_
          rotate_left 1
          · intro w' hSw
            go_simp <;> with_reducible rfl
          try simp only [List.getElem_toArray, List.getElem_cons_zero, List.getElem_cons_succ, Act.put, List.setIfInBounds_toArray, List.set_cons_zero, List.set_cons_succ]
          refine wpAnyH_ready (rs := [36]) (by kernel_rfl) (by simp) (AllReadyH.cons rfl (fun K hK => ?_) AllReadyH.nil)
          go_simp
          refine hK _ _ (HS0.out _ (HB11.out.setCell (p := ⟨w.heap.size, 0, none⟩) (Nat.le_refl _) _)) (fun hS => ?_)
          clear hK K
          try simp only [List.getElem_toArray, List.getElem_cons_zero, List.getElem_cons_succ, Act.put, List.setIfInBounds_toArray, List.set_cons_zero, List.set_cons_succ]
          refine wpAnyH_done (by kernel_rfl) ?_ _
          go_wp2_with fail
          go_roundw
          case rel => exact ⟨k + 1, by omega, by go_num, HFN⟩
          case measure => simp [intOf]; omega
        · have hrf := ((H.out.below (HBW.out.trans (hw8.mono HBW.out.size))).dat f (List.mem_of_getElem? HF.out)).rd.1
          refine step_append_ownA (by rfl) (.tmp 33) (.tmp 41) 29 (by rfl) WD.heap.size 5 i0 _ 1 1 Tryz.underlying29 hi hz0 hz1 hz2 rfl (by decide) _ 0 [] (by rfl) hown f.A f.l.length f.c (u8s f.l) (by rfl) (by simp) (fun e => by have := hrf.nonone e; rw [u8s_len] at this; omega) hrf.cells (u8s_one _) (by unfold maxLen; omega) (by omega) (by omega) ?_
          intro v9 W9 hr9 hg9
          rw [Nat.zero_add, List.nil_append] at hr9
          obtain ⟨A9, c9, rfl, hd9⟩ := own_dat hr9
          have hb9 : Below WD.heap.size WD W9 := hb8.trans (grown_below hg9 (fun g e => Nat.le_of_eq (Option.some.inj e)) (by omega))
          have hw9 := HD.out.trans (hb9.mono hds)
          refine hK _ _ (HS0.out _ (HBW.out.trans (hw9.mono HBW.out.size))) (fun hS => ?_)
          clear hK K hr9 hg9 hrf hown
          have cN9 := (H2.out.below hw9).c0
          rw [hl2] at cN9
          try simp only [List.getElem_toArray, List.getElem_cons_zero, List.getElem_cons_succ, Act.put, List.setIfInBounds_toArray, List.set_cons_zero, List.set_cons_succ]
          refine wpAnyH_take (i := 31) (v := ?_) rfl (by kernel_rfl) (by kernel_rfl) (by kernel_rfl) (fun _ _ _ h => h) (Or.inl ⟨by rfl, ?_⟩) hS ?_
          rotate_left 1
          · intro w' hSw
            go_simp <;> with_reducible rfl
          try simp only [List.getElem_toArray, List.getElem_cons_zero, List.getElem_cons_succ, Act.put, List.setIfInBounds_toArray, List.set_cons_zero, List.set_cons_succ]
          refine wpAnyH_ready (rs := [4, 32]) (by kernel_rfl) (by simp) (AllReadyH.cons rfl (fun K hK => ?_) (AllReadyH.cons rfl (fun K hK => ?_) AllReadyH.nil))
          · go_simp
            refine hK _ _ hS (fun hS => ?_)
            clear hK K
            try simp only [List.getElem_toArray, List.getElem_cons_zero, List.getElem_cons_succ, Act.put, List.setIfInBounds_toArray, List.set_cons_zero, List.set_cons_succ]
            refine wpAnyH_ready (rs := [32]) (by kernel_rfl) (by simp) (AllReadyH.cons rfl (fun K hK => ?_) AllReadyH.nil)
            go_simp
            have hb10 : Below W9.heap.size W9 (W9.alloc (.cells #[.string ⟨f.s.toArray⟩, .slice A9 f.l.length c9, .int .i64 f.n] 67)) := (Below.refl _ _).alloc (Nat.le_refl _) _
            have hn10 := news_new W9 [.string ⟨f.s.toArray⟩, .slice A9 f.l.length c9, .int .i64 f.n] 67
            rw [show [Value.string ⟨f.s.toArray⟩, .slice A9 f.l.length c9, .int .i64 f.n].toArray = #[Value.string ⟨f.s.toArray⟩, .slice A9 f.l.length c9, .int .i64 f.n] from rfl] at hn10
            have hw10 := hw9.trans (hb10.mono (by have := hw9.size; omega))
            have hd10 : Dat (W9.alloc (.cells #[.string ⟨f.s.toArray⟩, .slice A9 f.l.length c9, .int .i64 f.n] 67)) (fun b => WD.heap.size ≤ b) A9 c9 f.l := hd9.below hb10
            refine hK _ _ (HS0.out _ (HBW.out.trans (hw10.mono HBW.out.size))) (fun hS => ?_)
            clear hK K
            have cN10 := (H2.out.below hw10).c0
            rw [hl2] at cN10
            generalize (W9.alloc (.cells #[.string ⟨f.s.toArray⟩, .slice A9 f.l.length c9, .int .i64 f.n] 67)) = W10 at *
            try simp only [List.getElem_toArray, List.getElem_cons_zero, List.getElem_cons_succ, Act.put, List.setIfInBounds_toArray, List.set_cons_zero, List.set_cons_succ]
            refine wpAnyH_ready (rs := [33]) (by kernel_rfl) (by simp) (AllReadyH.cons rfl (fun K hK => ?_) AllReadyH.nil)
            have h10 := H2.out.below hw10
            have hrow := h10.row
            rw [hl2] at hrow
            refine step_append_full _ (by rfl) (.tmp 24) (.tmp 52) 51 (by rfl) 67 i1 _ 3 48 Tryz.underlying51 hj hy0 hy1 hy2 rfl 0 (.slice A2 k c2) k (rfV P2) (by rfl) hrow (Nat.zero_le _) ⟨W9.heap.size, 0, none⟩ 1 1 [.string ⟨f.s.toArray⟩, .slice A9 f.l.length c9, .int .i64 f.n] (by rfl) (by rfl) hn10 (fun u hu => by simp at hu; rcases hu with rfl | rfl | rfl <;> rfl) (by unfold maxLen; omega) (by omega) (by decide) ?_
            intro v11 W11 g11 hr11 hgr11 hv11 hg11
            obtain ⟨A11, c11, rfl⟩ := owns_form hr11
            have hown2 : ∀ j, (Value.slice A2 k c2).ownBlock = some j → w.heap.size ≤ j := fun j e => hB2 j (H2.out.own j (by rw [own_len A2 P2.length k c2]; exact e))
            have hs10 := hw10.size
            have hs11 := hgr11.size
            have hbw11 : Below w.heap.size w W11 := (HBW.out.trans (hw10.mono HBW.out.size)).trans (grown_below hgr11 hown2 (by have := HBW.out.size; omega))
            have hP : rfV (P2 ++ [⟨f.s, A9, c9, f.l, f.n⟩]) = rfV P2 ++ [.string ⟨f.s.toArray⟩, .slice A9 f.l.length c9, .int .i64 f.n] := by rw [rfV_app, rfV_one1]; rfl
            have hPl : (P2 ++ [(⟨f.s, A9, c9, f.l, f.n⟩ : RF)]).length = k + 1 := by simp [hl2]
            have hmap : (P2 ++ [(⟨f.s, A9, c9, f.l, f.n⟩ : RF)]).map RF.fe = (P.map RF.fe).take (k + 1) := by
              rw [srt_snoc H.out.srt (fe_at HF.out), List.map_append, hP2]; rfl
            rw [← hP, ← hPl] at hr11
            have hfar : ∀ j, j < wr.heap.size → (Value.slice A2 P2.length c2).ownBlock ≠ some j → W11.heap[j]? = wr.heap[j]? := fun j j1 j2 => (hgr11.block j (by omega) (fun e => j2 (by rw [own_len A2 P2.length k c2]; exact e.symm))).trans (hw10.block j j1)
            have hfd := H2.out.far hfar (by omega)
            have hlen11 : ∀ x ∈ P2 ++ [(⟨f.s, A9, c9, f.l, f.n⟩ : RF)], x.l.length ≤ 8388608 ∧ x.n ≤ x.l.length ∧ x.s.length ≤ 24 := fun x hx => by
              rcases List.mem_append.1 hx with hx | hx
              · exact H2.out.len x hx
              · simp at hx
                subst hx
                exact hfl
            have hd11 : Dat W11 (fun b => WD.heap.size ≤ b) A9 c9 f.l := by
              have hub : ∀ b, (WD.heap.size ≤ b ∧ UB W10 b) → b < W10.heap.size → W11.heap[b]? = W10.heap[b]? := fun b q hl => hgr11.block b hl (fun e => by
                obtain ⟨cur, hb⟩ := h10.gfile b (by rw [own_len A2 P2.length k c2]; exact e.symm)
                exact ub_ne q.2 hb (by decide) rfl)
              exact hd10.narrow.keep hub hgr11.size (fun b q _ => q.1)
            have hfin := H2.out.reset (n' := n) hr11 (fun j e => by
                rw [own_len A11 _ (k + 1), hv11] at e
                have e : g11 = j := Option.some.inj e
                subst e
                rcases hg11 with q | q
                · right; omega
                · left; rw [own_len A2 P2.length k c2]; exact q) hfar (by omega) ⟨hgr11.os.trans hw10.os, hgr11.tape.trans hw10.tape, hgr11.output.trans hw10.output⟩ (fun x hx => by
                rcases List.mem_append.1 hx with hx | hx
                · exact hfd x hx
                · simp at hx
                  subst hx
                  exact hd11.keep (fun _ _ _ => rfl) (Nat.le_refl _) (fun b q _ => .inr (by omega))) (by rw [hmap]; exact H.out.srt.sublist (List.take_sublist _ _)) hlen11 (by rw [hPl]; omega) hnn
            rw [hmap, hPl] at hfin
            have hbX : Bk W11 w.heap.size 53 [.slice A2 P2.length c2, .int .i64 room] := (hfar _ (H2.out.lt _ H2.out.hX) H2.out.xne).trans H2.out.bk
            have cX11 := hbX.cell 0
            have zX11 := hbX.frozen 0
            simp only [List.getElem?_cons_zero] at cX11
            have HFN : Hid (CpR w room P n (k + 1) (W11.setCell ⟨w.heap.size, 0, none⟩ (.slice A11 (k + 1) c11))) := Lib.hid (by
              obtain ⟨B4, q1, ⟨P4, v4, q2, q3⟩, q4⟩ := hfin
              exact ⟨B4, P4, v4, fun j q => (q1 j q).elim (hB2 j) (fun q => Nat.le_trans HBW.out.size q), q2, q3, hbw11.setCell (p := ⟨w.heap.size, 0, none⟩) (Nat.le_refl _) _⟩)
            have HB11 := Lib.hid hbw11
            refine hK _ _ (HS0.out _ hbw11) (fun hS => ?_)
            clear hK K hfin hbX hfd hfar hlen11 hd11 hmap hPl hP hr11 hgr11 hv11 hg11 hbw11 h10 hrow hown2 hs10 hs11
            try simp only [List.getElem_toArray, List.getElem_cons_zero, List.getElem_cons_succ, Act.put, List.setIfInBounds_toArray, List.set_cons_zero, List.set_cons_succ]
            refine wpAnyH_take (i := 34) (v := ?_) rfl (by kernel_rfl) (by kernel_rfl) (by kernel_rfl) (fun _ _ _ h => h) (Or.inl ⟨by rfl, ?_⟩) hS ?_
            rotate_left 1
            · intro w' hSw
              go_simp <;> with_reducible rfl
            try simp only [List.getElem_toArray, List.getElem_cons_zero, List.getElem_cons_succ, Act.put, List.setIfInBounds_toArray, List.set_cons_zero, List.set_cons_succ]
            refine wpAnyH_take (i := 35) (v := ?_) rfl (by kernel_rfl) (by kernel_rfl) (by kernel_rfl) (fun _ _ _ h => h) (Or.inl ⟨by rfl, ?_⟩) hS ?_
            rotate_left 1
            · intro w' hSw
              go_simp <;> with_reducible rfl
            try simp only [List.getElem_toArray, List.getElem_cons_zero, List.getElem_cons_succ, Act.put, List.setIfInBounds_toArray, List.set_cons_zero, List.set_cons_succ]
            refine wpAnyH_ready (rs := [36]) (by kernel_rfl) (by simp) (AllReadyH.cons rfl (fun K hK => ?_) AllReadyH.nil)
            go_simp
            refine hK _ _ (HS0.out _ (HB11.out.setCell (p := ⟨w.heap.size, 0, none⟩) (Nat.le_refl _) _)) (fun hS => ?_)
            clear hK K
            try simp only [List.getElem_toArray, List.getElem_cons_zero, List.getElem_cons_succ, Act.put, List.setIfInBounds_toArray, List.set_cons_zero, List.set_cons_succ]
            refine wpAnyH_done (by kernel_rfl) ?_ _
            go_wp2_with fail
            go_roundw
            case rel => exact ⟨k + 1, by omega, by go_num, HFN⟩
            case measure => simp [intOf]; omega
          · go_simp
            have hb10 : Below W9.heap.size W9 (W9.alloc (.cells #[.string ⟨f.s.toArray⟩, .slice A9 f.l.length c9, .int .i64 f.n] 67)) := (Below.refl _ _).alloc (Nat.le_refl _) _
            have hn10 := news_new W9 [.string ⟨f.s.toArray⟩, .slice A9 f.l.length c9, .int .i64 f.n] 67
            rw [show [Value.string ⟨f.s.toArray⟩, .slice A9 f.l.length c9, .int .i64 f.n].toArray = #[Value.string ⟨f.s.toArray⟩, .slice A9 f.l.length c9, .int .i64 f.n] from rfl] at hn10
            have hw10 := hw9.trans (hb10.mono (by have := hw9.size; omega))
            have hd10 : Dat (W9.alloc (.cells #[.string ⟨f.s.toArray⟩, .slice A9 f.l.length c9, .int .i64 f.n] 67)) (fun b => WD.heap.size ≤ b) A9 c9 f.l := hd9.below hb10
            refine hK _ _ (HS0.out _ (HBW.out.trans (hw10.mono HBW.out.size))) (fun hS => ?_)
            clear hK K
            have cN10 := (H2.out.below hw10).c0
            rw [hl2] at cN10
            generalize (W9.alloc (.cells #[.string ⟨f.s.toArray⟩, .slice A9 f.l.length c9, .int .i64 f.n] 67)) = W10 at *
            try simp only [List.getElem_toArray, List.getElem_cons_zero, List.getElem_cons_succ, Act.put, List.setIfInBounds_toArray, List.set_cons_zero, List.set_cons_succ]
            refine wpAnyH_ready (rs := [4]) (by kernel_rfl) (by simp) (AllReadyH.cons rfl (fun K hK => ?_) AllReadyH.nil)
            go_simp
            refine hK _ _ hS (fun hS => ?_)
            clear hK K
            try simp only [List.getElem_toArray, List.getElem_cons_zero, List.getElem_cons_succ, Act.put, List.setIfInBounds_toArray, List.set_cons_zero, List.set_cons_succ]
            refine wpAnyH_ready (rs := [33]) (by kernel_rfl) (by simp) (AllReadyH.cons rfl (fun K hK => ?_) AllReadyH.nil)
            have h10 := H2.out.below hw10
            have hrow := h10.row
            rw [hl2] at hrow
            refine step_append_full _ (by rfl) (.tmp 24) (.tmp 52) 51 (by rfl) 67 i1 _ 3 48 Tryz.underlying51 hj hy0 hy1 hy2 rfl 0 (.slice A2 k c2) k (rfV P2) (by rfl) hrow (Nat.zero_le _) ⟨W9.heap.size, 0, none⟩ 1 1 [.string ⟨f.s.toArray⟩, .slice A9 f.l.length c9, .int .i64 f.n] (by rfl) (by rfl) hn10 (fun u hu => by simp at hu; rcases hu with rfl | rfl | rfl <;> rfl) (by unfold maxLen; omega) (by omega) (by decide) ?_
            intro v11 W11 g11 hr11 hgr11 hv11 hg11
            obtain ⟨A11, c11, rfl⟩ := owns_form hr11
            have hown2 : ∀ j, (Value.slice A2 k c2).ownBlock = some j → w.heap.size ≤ j := fun j e => hB2 j (H2.out.own j (by rw [own_len A2 P2.length k c2]; exact e))
            have hs10 := hw10.size
            have hs11 := hgr11.size
            have hbw11 : Below w.heap.size w W11 := (HBW.out.trans (hw10.mono HBW.out.size)).trans (grown_below hgr11 hown2 (by have := HBW.out.size; omega))
            have hP : rfV (P2 ++ [⟨f.s, A9, c9, f.l, f.n⟩]) = rfV P2 ++ [.string ⟨f.s.toArray⟩, .slice A9 f.l.length c9, .int .i64 f.n] := by rw [rfV_app, rfV_one1]; rfl
            have hPl : (P2 ++ [(⟨f.s, A9, c9, f.l, f.n⟩ : RF)]).length = k + 1 := by simp [hl2]
            have hmap : (P2 ++ [(⟨f.s, A9, c9, f.l, f.n⟩ : RF)]).map RF.fe = (P.map RF.fe).take (k + 1) := by
              rw [srt_snoc H.out.srt (fe_at HF.out), List.map_append, hP2]; rfl
            rw [← hP, ← hPl] at hr11
            have hfar : ∀ j, j < wr.heap.size → (Value.slice A2 P2.length c2).ownBlock ≠ some j → W11.heap[j]? = wr.heap[j]? := fun j j1 j2 => (hgr11.block j (by omega) (fun e => j2 (by rw [own_len A2 P2.length k c2]; exact e.symm))).trans (hw10.block j j1)
            have hfd := H2.out.far hfar (by omega)
            have hlen11 : ∀ x ∈ P2 ++ [(⟨f.s, A9, c9, f.l, f.n⟩ : RF)], x.l.length ≤ 8388608 ∧ x.n ≤ x.l.length ∧ x.s.length ≤ 24 := fun x hx => by
              rcases List.mem_append.1 hx with hx | hx
              · exact H2.out.len x hx
              · simp at hx
                subst hx
                exact hfl
            have hd11 : Dat W11 (fun b => WD.heap.size ≤ b) A9 c9 f.l := by
              have hub : ∀ b, (WD.heap.size ≤ b ∧ UB W10 b) → b < W10.heap.size → W11.heap[b]? = W10.heap[b]? := fun b q hl => hgr11.block b hl (fun e => by
                obtain ⟨cur, hb⟩ := h10.gfile b (by rw [own_len A2 P2.length k c2]; exact e.symm)
                exact ub_ne q.2 hb (by decide) rfl)
              exact hd10.narrow.keep hub hgr11.size (fun b q _ => q.1)
            have hfin := H2.out.reset (n' := n) hr11 (fun j e => by
                rw [own_len A11 _ (k + 1), hv11] at e
                have e : g11 = j := Option.some.inj e
                subst e
                rcases hg11 with q | q
                · right; omega
                · left; rw [own_len A2 P2.length k c2]; exact q) hfar (by omega) ⟨hgr11.os.trans hw10.os, hgr11.tape.trans hw10.tape, hgr11.output.trans hw10.output⟩ (fun x hx => by
                rcases List.mem_append.1 hx with hx | hx
                · exact hfd x hx
                · simp at hx
                  subst hx
                  exact hd11.keep (fun _ _ _ => rfl) (Nat.le_refl _) (fun b q _ => .inr (by omega))) (by rw [hmap]; exact H.out.srt.sublist (List.take_sublist _ _)) hlen11 (by rw [hPl]; omega) hnn
            rw [hmap, hPl] at hfin
            have hbX : Bk W11 w.heap.size 53 [.slice A2 P2.length c2, .int .i64 room] := (hfar _ (H2.out.lt _ H2.out.hX) H2.out.xne).trans H2.out.bk
            have cX11 := hbX.cell 0
            have zX11 := hbX.frozen 0
            simp only [List.getElem?_cons_zero] at cX11
            have HFN : Hid (CpR w room P n (k + 1) (W11.setCell ⟨w.heap.size, 0, none⟩ (.slice A11 (k + 1) c11))) := Lib.hid (by
              obtain ⟨B4, q1, ⟨P4, v4, q2, q3⟩, q4⟩ := hfin
              exact ⟨B4, P4, v4, fun j q => (q1 j q).elim (hB2 j) (fun q => Nat.le_trans HBW.out.size q), q2, q3, hbw11.setCell (p := ⟨w.heap.size, 0, none⟩) (Nat.le_refl _) _⟩)
            have HB11 := Lib.hid hbw11
            refine hK _ _ (HS0.out _ hbw11) (fun hS => ?_)
            clear hK K hfin hbX hfd hfar hlen11 hd11 hmap hPl hP hr11 hgr11 hv11 hg11 hbw11 h10 hrow hown2 hs10 hs11
            try simp only [List.getElem_toArray, List.getElem_cons_zero, List.getElem_cons_succ, Act.put, List.setIfInBounds_toArray, List.set_cons_zero, List.set_cons_succ]
            refine wpAnyH_take (i := 34) (v := ?_) rfl (by kernel_rfl) (by kernel_rfl) (by kernel_rfl) (fun _ _ _ h => h) (Or.inl ⟨by rfl, ?_⟩) hS ?_
            rotate_left 1
            · intro w' hSw
              go_simp <;> with_reducible rfl
            try simp only [List.getElem_toArray, List.getElem_cons_zero, List.getElem_cons_succ, Act.put, List.setIfInBounds_toArray, List.set_cons_zero, List.set_cons_succ]
            refine wpAnyH_take (i := 35) (v := ?_) rfl (by kernel_rfl) (by kernel_rfl) (by kernel_rfl) (fun _ _ _ h => h) (Or.inl ⟨by rfl, ?_⟩) hS ?_
            rotate_left 1
            · intro w' hSw
              go_simp <;> with_reducible rfl
            try simp only [List.getElem_toArray, List.getElem_cons_zero, List.getElem_cons_succ, Act.put, List.setIfInBounds_toArray, List.set_cons_zero, List.set_cons_succ]
            refine wpAnyH_ready (rs := [36]) (by kernel_rfl) (by simp) (AllReadyH.cons rfl (fun K hK => ?_) AllReadyH.nil)
            go_simp
            refine hK _ _ (HS0.out _ (HB11.out.setCell (p := ⟨w.heap.size, 0, none⟩) (Nat.le_refl _) _)) (fun hS => ?_)
            clear hK K
            try simp only [List.getElem_toArray, List.getElem_cons_zero, List.getElem_cons_succ, Act.put, List.setIfInBounds_toArray, List.set_cons_zero, List.set_cons_succ]
            refine wpAnyH_done (by kernel_rfl) ?_ _
            go_wp2_with fail
            go_roundw
            case rel => exact ⟨k + 1, by omega, by go_num, HFN⟩
            case measure => simp [intOf]; omega
    · have d1 : decide ((k : Int) < (P.length : Int)) = false := decide_eq_false (by omega)
      obtain rfl : k = P.length := by omega
      obtain ⟨A, c', rfl, -, -, -, -⟩ := h1.form
      rw [List.take_of_length_le (by simp)] at hP2
      have HFN : Hid ((∃ B2, (∀ j, B2 j → w.heap.size ≤ j) ∧ RDB B2 w.heap.size room (P.map RF.fe) n wr) ∧ Below w.heap.size w wr) := Lib.hid ⟨⟨B2, hB2, P2, v2, h2, hP2⟩, hbw⟩
      clear h1 h2 hP2 hbw HR
      go_wp2_with fail
      go_ret
      exact ⟨_, rfl, HFN.out⟩
end
end Go.Proofs.YtcmbeolicopicaaGreat

