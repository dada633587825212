/- disk: awake. -/
import Derived.Test.YtcmbeolicopicaaGreatDAw
import Derived.Deep.OwnRows
namespace Go.Proofs.YtcmbeolicopicaaGreat
open Go.RowKit Go.Maps Go.ChangeMaps
set_option linter.unusedVariables false
set_option linter.unusedSectionVars false
set_option linter.unusedSimpArgs false
set_option maxRecDepth 100000

theorem run_mk (k : Nat) (hk : madeCells #[.int .u8 0] k = (u8s (zs k)).toArray) (h1 : k ≤ 100000000) (W : World) : (Instr.makeSlice 29 (.int .i64 (k : Int)) (.int .i64 (k : Int))).run Tryz.prog W = .ok (.slice (some ⟨W.heap.size, 0, none⟩) k k) (W.alloc (.cells (u8s (zs k)).toArray 5)) := by
  obtain ⟨i0, hi, hz0, hz1, hz2⟩ : ∃ i0 : TypeInfo, Tryz.prog.info? 5 = some i0 ∧ i0.zero = some (.int .u8 0) ∧ i0.size = 1 ∧ i0.bytes = 1 := ⟨_, rfl, rfl, rfl, rfl⟩
  have := run_make_row (P := Tryz.prog) 29 5 i0 (.int .u8 0) Tryz.underlying29 hi hz0 hz1 rfl .i64 .i64 k (by rw [hz2]; omega) (by omega) W
  rw [hk] at this
  exact this
theorem step_make {w W : World} {D n : Nat} {room : Int} {L : List FE} {X : List (Nat × Nat)} (h : Aw w D room L n X W) {ops : Array Oper} {o : Oper} {a : Act} {K : Act → World → Prop} {Q : Exit → Act → World → Prop} {E : Prop} (k : Nat) (hk : madeCells #[.int .u8 0] k = (u8s (zs k)).toArray) (h1 : k ≤ 100000000) (hgd : o.guard = none) (l c : Operand) (ho : o.op = .makeSlice 29 l c) (hl : a.eval l = .int .i64 (k : Int)) (hc : a.eval c = .int .i64 (k : Int))
    (hK : ∀ g W', Aw w D room L n ((g, k) :: X) W' → K (a.put o.dst (.slice (some ⟨g, 0, none⟩) k k)) W') :
    if Region.wanted o (yielded ops a.tmps) = true then Oper.wp Tryz.prog o a W K Q else E := by
  have hw : Region.wanted o (yielded ops a.tmps) = true := by simp [Region.wanted, hgd]
  rw [if_pos hw]
  have hr := run_mk k hk h1 W
  unfold Oper.wp execOp
  simp only [ho, hl, hc, Sem.run_bind, Sem.run_pure, Result.andThen_ok, hr]
  exact hK _ _ (h.make k)
theorem owned_nms {w : World} {base : Nat} {v : Value} {ss : List Nm} (h : w.ownsRow base 9 1 v ss.length (ss.map nmV)) : ∃ A c, v = .slice A ss.length c ∧ Rd w (fun g => g < w.heap.size) A c (ss.map nmV) := by
  rcases h.2 with ⟨e1, e2⟩ | ⟨g, cap, cur, e1, hb, hg, h1, h2, h3, h4⟩
  · have : ss = [] := List.eq_nil_of_length_eq_zero e2
    subst this
    exact ⟨none, 0, e1, Rd.none_ _ _ _ _ (fun _ => rfl)⟩
  · refine ⟨_, _, e1, (fun e => by cases e), fun _ => ⟨_, rfl, (Array.getElem?_eq_some_iff.1 hg).1, fun j u hu => ?_⟩⟩
    have hadd : (⟨g, 0, none⟩ : Addr).add j = ⟨g, j, none⟩ := by unfold Addr.add; split <;> simp_all
    rw [hadd, cell_of_row w g j cur 9 (0, 0) hg]
    rw [← h4, List.getElem?_take] at hu
    split at hu
    · simpa using hu
    · cases hu
theorem below_drewN {n : Nat} {w w' : World} (h : Below n w w') : ∀ k, Below n w (w'.drewN k)
  | 0 => h
  | k + 1 => by
    have := below_drewN h k
    exact ⟨this.os, this.tape, this.output, this.size, this.block⟩
def nA : Nm := [97]
def nB : Nm := [98]
def nU : Nm := [65]
def aL1 : List FE := [⟨nA, zs 3, 0⟩]
def aL2 : List FE := [⟨nA, zs 3, 3⟩]
def aL3 : List FE := [⟨nA, zs 7, 3⟩]
def aL4 : List FE := [⟨nA, zs 4, 4⟩]
def aL5 : List FE := [⟨nA, zs 4, 4⟩, ⟨nB, [], 0⟩]
theorem a_e1 : appE 8 [] nA (zs 3) = 0 := by decide +kernel
theorem a_l1 : appL 8 [] nA (zs 3) = aL1 := by kernel_rfl
theorem a_l2 : putF aL1 ⟨nA, zs 3, (zs 3).length⟩ = aL2 := by kernel_rfl
theorem a_e3 : appE 8 aL2 nA (zs 4) = 0 := by decide +kernel
theorem a_l3 : appL 8 aL2 nA (zs 4) = aL3 := by kernel_rfl
theorem a_u3 : usedF aL3 = 7 := by decide +kernel
theorem a_e4 : appE 8 aL3 nB (zs 2) = 5 := by decide +kernel
theorem a_l3' : appL 8 aL3 nB (zs 2) = aL3 := by kernel_rfl
theorem a_l4 : aL3.map (crF 1) = aL4 := by kernel_rfl
theorem a_e5 : appE 8 aL4 nU [] = 2 := by decide +kernel
theorem a_l4' : appL 8 aL4 nU [] = aL4 := by kernel_rfl
theorem a_e6 : appE 8 aL4 nB [] = 0 := by decide +kernel
theorem a_l5 : appL 8 aL4 nB [] = aL5 := by kernel_rfl
set_option maxHeartbeats 4000000 in
theorem awake_any (w : World) : Calls Tryz.prog 7 #[] w fun e w' => e = .returned (.bool true) ∧ Below w.heap.size w w' := by
  have hn := aw_new 8 w
  have hm2 : ∀ W : World, (Instr.makeSlice 29 (.int .i64 2) (.int .i64 2)).run Tryz.prog W = .ok (.slice (some ⟨W.heap.size, 0, none⟩) 2 2) (W.alloc (.cells (u8s (zs 2)).toArray 5)) := run_mk 2 (by kernel_rfl) (by decide)
  go_enter Tryz.func7, Tryz.ntmps7
  go_wp2_with fail
  (with_reducible refine hn.mono ?_)
  rintro _ w1 ⟨D, rfl, h0⟩
  clear hn
  rw [show max (8 : Int) 0 = 8 from rfl] at h0
  go_wp2_with fail
  refine wp_region_held_drew (S := fun _ => True) (by kernel_rfl) trivial (fun hS => ?_)
  have h1 := h0.below (Below.refl _ _).drew
  clear h0
  generalize w1.drew = w2 at *
  refine wpAnyH_take (i := 0) (v := ?_) rfl (by kernel_rfl) (by kernel_rfl) (by kernel_rfl) (fun _ _ _ h => h) (Or.inl ⟨by rfl, ?_⟩) hS ?_
  rotate_left 1
  · intro w' hSw
    go_simp <;> with_reducible rfl
  try simp only [List.getElem_toArray, List.getElem_cons_zero, List.getElem_cons_succ, Act.put, List.setIfInBounds_toArray, List.set_cons_zero, List.set_cons_succ]
  refine wpAnyH_take (i := 3) (v := ?_) rfl (by kernel_rfl) (by kernel_rfl) (by kernel_rfl) (fun _ _ _ h => h) (Or.inl ⟨by rfl, ?_⟩) hS ?_
  rotate_left 1
  · intro w' hSw
    go_simp <;> with_reducible rfl
  try simp only [List.getElem_toArray, List.getElem_cons_zero, List.getElem_cons_succ, Act.put, List.setIfInBounds_toArray, List.set_cons_zero, List.set_cons_succ]
  refine wpAnyH_take (i := 5) (v := ?_) rfl (by kernel_rfl) (by kernel_rfl) (by kernel_rfl) (fun _ _ _ h => h) (Or.inl ⟨by rfl, ?_⟩) hS ?_
  rotate_left 1
  · intro w' hSw
    go_simp <;> with_reducible rfl
  try simp only [List.getElem_toArray, List.getElem_cons_zero, List.getElem_cons_succ, Act.put, List.setIfInBounds_toArray, List.set_cons_zero, List.set_cons_succ]
  refine wpAnyH_ready (rs := [1, 6]) (by kernel_rfl) (by simp) (AllReadyH.cons rfl (fun K hK => ?_) (AllReadyH.cons rfl (fun K hK => ?_) AllReadyH.nil))
  · refine step_make h1 3 (by kernel_rfl) (by decide) (by rfl) _ _ (by rfl) (by rfl) (by rfl) ?_
    clear h1
    intro g3 W1 h1
    refine hK _ _ trivial (fun hS => ?_)
    clear hK K
    try simp only [List.getElem_toArray, List.getElem_cons_zero, List.getElem_cons_succ, Act.put, List.setIfInBounds_toArray, List.set_cons_zero, List.set_cons_succ]
    refine wpAnyH_ready (rs := [2, 6]) (by kernel_rfl) (by simp) (AllReadyH.cons rfl (fun K hK => ?_) (AllReadyH.cons rfl (fun K hK => ?_) AllReadyH.nil))
    · go_simp
      refine (aw_append h1 (g := g3) (k := 3) (by simp) (by decide) nA (by decide) (by decide) 3).mono ?_
      rw [a_e1, a_l1]
      clear h1
      rintro _ W1 ⟨rfl, h1⟩
      go_simp
      refine hK _ _ trivial (fun hS => ?_)
      clear hK K
      try simp only [List.getElem_toArray, List.getElem_cons_zero, List.getElem_cons_succ, Act.put, List.setIfInBounds_toArray, List.set_cons_zero, List.set_cons_succ]
      refine wpAnyH_ready (rs := [4, 6]) (by kernel_rfl) (by simp) (AllReadyH.cons rfl (fun K hK => ?_) (AllReadyH.cons rfl (fun K hK => ?_) AllReadyH.nil))
      · go_simp
        refine (aw_sync h1 nA (by decide) (g := ⟨nA, zs 3, 0⟩) (by kernel_rfl)).mono ?_
        rw [show (FE.s ⟨nA, zs 3, 0⟩) = nA from rfl, show (FE.l ⟨nA, zs 3, 0⟩) = zs 3 from rfl, a_l2]
        clear h1
        rintro _ W1 ⟨rfl, h1⟩
        go_simp
        refine hK _ _ trivial (fun hS => ?_)
        clear hK K
        try simp only [List.getElem_toArray, List.getElem_cons_zero, List.getElem_cons_succ, Act.put, List.setIfInBounds_toArray, List.set_cons_zero, List.set_cons_succ]
        refine wpAnyH_ready (rs := [6]) (by kernel_rfl) (by simp) (AllReadyH.cons rfl (fun K hK => ?_) AllReadyH.nil)
        refine step_make h1 4 (by kernel_rfl) (by decide) (by rfl) _ _ (by rfl) (by rfl) (by rfl) ?_
        clear h1
        intro g4 W1 h1
        refine hK _ _ trivial (fun hS => ?_)
        clear hK K
        try simp only [List.getElem_toArray, List.getElem_cons_zero, List.getElem_cons_succ, Act.put, List.setIfInBounds_toArray, List.set_cons_zero, List.set_cons_succ]
        refine wpAnyH_ready (rs := [7]) (by kernel_rfl) (by simp) (AllReadyH.cons rfl (fun K hK => ?_) AllReadyH.nil)
        go_simp
        refine (aw_append h1 (g := g4) (k := 4) (by simp) (by decide) nA (by decide) (by decide) 4).mono ?_
        rw [a_e3, a_l3]
        clear h1
        rintro _ W1 ⟨rfl, h1⟩
        go_simp
        refine hK _ _ trivial (fun hS => ?_)
        clear hK K
        try simp only [List.getElem_toArray, List.getElem_cons_zero, List.getElem_cons_succ, Act.put, List.setIfInBounds_toArray, List.set_cons_zero, List.set_cons_succ]
        refine wpAnyH_take (i := 8) (v := ?_) rfl (by kernel_rfl) (by kernel_rfl) (by kernel_rfl) (fun _ _ _ h => h) (Or.inl ⟨by rfl, ?_⟩) hS ?_
        rotate_left 1
        · intro w' hSw
          go_simp <;> with_reducible rfl
        try simp only [List.getElem_toArray, List.getElem_cons_zero, List.getElem_cons_succ, Act.put, List.setIfInBounds_toArray, List.set_cons_zero, List.set_cons_succ]
        refine wpAnyH_take (i := 9) (v := ?_) rfl (by kernel_rfl) (by kernel_rfl) (by kernel_rfl) (fun _ _ _ h => h) (Or.inl ⟨by rfl, ?_⟩) hS ?_
        rotate_left 1
        · intro w' hSw
          go_simp <;> with_reducible rfl
        try simp only [List.getElem_toArray, List.getElem_cons_zero, List.getElem_cons_succ, Act.put, List.setIfInBounds_toArray, List.set_cons_zero, List.set_cons_succ]
        refine wpAnyH_take (i := 10) (v := ?_) rfl (by kernel_rfl) (by kernel_rfl) (by kernel_rfl) (fun _ _ _ h => h) (Or.inl ⟨by rfl, ?_⟩) hS ?_
        rotate_left 1
        · intro w' hSw
          go_simp <;> with_reducible rfl
        try simp only [List.getElem_toArray, List.getElem_cons_zero, List.getElem_cons_succ, Act.put, List.setIfInBounds_toArray, List.set_cons_zero, List.set_cons_succ]
        refine wpAnyH_done (by kernel_rfl) ?_ _
        have h2 : Aw w D 8 aL3 2 [] _ := ⟨h1.db.imp fun B q => ⟨q.1, q.2.1, fun x hx => (by cases hx)⟩, h1.low, fun x hx => (by cases hx)⟩
        clear h1
        go_wp2_with fail
        have hu := aw_used h2
        rw [a_u3] at hu
        (with_reducible refine hu.mono ?_)
        rintro _ W2 ⟨rfl, h3⟩
        clear hu h2
        go_wp2_with fail
        have ha := aw_append (h3.make 2) (g := W2.heap.size) (k := 2) (by simp) (by decide) nB (by decide) (by decide) 2
        rw [a_e4, a_l3'] at ha
        refine ha.mono ?_
        clear ha h3
        rintro _ W3 ⟨rfl, h4⟩
        go_wp2_with fail
        have hc := aw_crash h4 1
        rw [a_l4] at hc
        refine hc.mono ?_
        clear hc h4
        rintro _ W4 ⟨rfl, h5⟩
        go_wp2_with fail
        refine (aw_read h5 nA (by decide) (g := ⟨nA, zs 4, 4⟩) (by kernel_rfl)).mono ?_
        clear h5
        rintro _ W5 ⟨A, c, rfl, hd, h6⟩
        rw [show (FE.l ⟨nA, zs 4, 4⟩).length = 4 from rfl]
        clear hd
        go_wp2_with fail
        have ha := aw_append_nil h6 nU (by decide) (by decide)
        rw [a_e5, a_l4'] at ha
        refine ha.mono ?_
        clear ha h6
        rintro _ W6 ⟨rfl, h7⟩
        go_wp2_with fail
        have ha := aw_append_nil h7 nB (by decide) (by decide)
        rw [a_e6, a_l5] at ha
        refine ha.mono ?_
        clear ha h7
        rintro _ W7 ⟨rfl, h8⟩
        go_wp2_with fail
        refine (aw_list h8).mono ?_
        clear h8
        rintro _ W8 ⟨v, rfl, hown, h9⟩
        have hown' : W8.ownsRow W7.heap.size 9 1 v [nA, nB].length ([nA, nB].map nmV) := hown
        clear hown
        obtain ⟨A2, c2, rfl, hrd⟩ := owned_nms hown'
        clear hown'
        have hs := SameTexts_any _ _ A2 (some ⟨W8.heap.size, 0, none⟩) c2 2 [nA, nB] [nA, nB] (W8.alloc (.cells #[nmV nA, nmV nB] 9)) (hrd.keep (K' := fun _ => True) (fun b q => heap_alloc_old _ _ q) (fun _ _ => trivial)) (rd_new W8 9 [nmV nA, nmV nB]) (by decide) (by decide)
        rw [decide_eq_true rfl] at hs
        have hbw : Below w.heap.size w (W8.alloc (.cells #[nmV nA, nmV nB] 9)) := h9.low.alloc h9.low.size _
        clear hrd h9
        go_wp2_with fail
        refine hs.mono ?_
        clear hs
        rintro _ _ ⟨rfl, k, rfl⟩
        go_wp2_with fail
        go_ret
        exact ⟨rfl, below_drewN hbw k⟩
      · refine step_make h1 4 (by kernel_rfl) (by decide) (by rfl) _ _ (by rfl) (by rfl) (by rfl) ?_
        clear h1
        intro g4 W1 h1
        refine hK _ _ trivial (fun hS => ?_)
        clear hK K
        try simp only [List.getElem_toArray, List.getElem_cons_zero, List.getElem_cons_succ, Act.put, List.setIfInBounds_toArray, List.set_cons_zero, List.set_cons_succ]
        refine wpAnyH_ready (rs := [4]) (by kernel_rfl) (by simp) (AllReadyH.cons rfl (fun K hK => ?_) AllReadyH.nil)
        go_simp
        refine (aw_sync h1 nA (by decide) (g := ⟨nA, zs 3, 0⟩) (by kernel_rfl)).mono ?_
        rw [show (FE.s ⟨nA, zs 3, 0⟩) = nA from rfl, show (FE.l ⟨nA, zs 3, 0⟩) = zs 3 from rfl, a_l2]
        clear h1
        rintro _ W1 ⟨rfl, h1⟩
        go_simp
        refine hK _ _ trivial (fun hS => ?_)
        clear hK K
        try simp only [List.getElem_toArray, List.getElem_cons_zero, List.getElem_cons_succ, Act.put, List.setIfInBounds_toArray, List.set_cons_zero, List.set_cons_succ]
        refine wpAnyH_ready (rs := [7]) (by kernel_rfl) (by simp) (AllReadyH.cons rfl (fun K hK => ?_) AllReadyH.nil)
        go_simp
        refine (aw_append h1 (g := g4) (k := 4) (by simp) (by decide) nA (by decide) (by decide) 4).mono ?_
        rw [a_e3, a_l3]
        clear h1
        rintro _ W1 ⟨rfl, h1⟩
        go_simp
        refine hK _ _ trivial (fun hS => ?_)
        clear hK K
        try simp only [List.getElem_toArray, List.getElem_cons_zero, List.getElem_cons_succ, Act.put, List.setIfInBounds_toArray, List.set_cons_zero, List.set_cons_succ]
        refine wpAnyH_take (i := 8) (v := ?_) rfl (by kernel_rfl) (by kernel_rfl) (by kernel_rfl) (fun _ _ _ h => h) (Or.inl ⟨by rfl, ?_⟩) hS ?_
        rotate_left 1
        · intro w' hSw
          go_simp <;> with_reducible rfl
        try simp only [List.getElem_toArray, List.getElem_cons_zero, List.getElem_cons_succ, Act.put, List.setIfInBounds_toArray, List.set_cons_zero, List.set_cons_succ]
        refine wpAnyH_take (i := 9) (v := ?_) rfl (by kernel_rfl) (by kernel_rfl) (by kernel_rfl) (fun _ _ _ h => h) (Or.inl ⟨by rfl, ?_⟩) hS ?_
        rotate_left 1
        · intro w' hSw
          go_simp <;> with_reducible rfl
        try simp only [List.getElem_toArray, List.getElem_cons_zero, List.getElem_cons_succ, Act.put, List.setIfInBounds_toArray, List.set_cons_zero, List.set_cons_succ]
        refine wpAnyH_take (i := 10) (v := ?_) rfl (by kernel_rfl) (by kernel_rfl) (by kernel_rfl) (fun _ _ _ h => h) (Or.inl ⟨by rfl, ?_⟩) hS ?_
        rotate_left 1
        · intro w' hSw
          go_simp <;> with_reducible rfl
        try simp only [List.getElem_toArray, List.getElem_cons_zero, List.getElem_cons_succ, Act.put, List.setIfInBounds_toArray, List.set_cons_zero, List.set_cons_succ]
        refine wpAnyH_done (by kernel_rfl) ?_ _
        have h2 : Aw w D 8 aL3 2 [] _ := ⟨h1.db.imp fun B q => ⟨q.1, q.2.1, fun x hx => (by cases hx)⟩, h1.low, fun x hx => (by cases hx)⟩
        clear h1
        go_wp2_with fail
        have hu := aw_used h2
        rw [a_u3] at hu
        (with_reducible refine hu.mono ?_)
        rintro _ W2 ⟨rfl, h3⟩
        clear hu h2
        go_wp2_with fail
        have ha := aw_append (h3.make 2) (g := W2.heap.size) (k := 2) (by simp) (by decide) nB (by decide) (by decide) 2
        rw [a_e4, a_l3'] at ha
        refine ha.mono ?_
        clear ha h3
        rintro _ W3 ⟨rfl, h4⟩
        go_wp2_with fail
        have hc := aw_crash h4 1
        rw [a_l4] at hc
        refine hc.mono ?_
        clear hc h4
        rintro _ W4 ⟨rfl, h5⟩
        go_wp2_with fail
        refine (aw_read h5 nA (by decide) (g := ⟨nA, zs 4, 4⟩) (by kernel_rfl)).mono ?_
        clear h5
        rintro _ W5 ⟨A, c, rfl, hd, h6⟩
        rw [show (FE.l ⟨nA, zs 4, 4⟩).length = 4 from rfl]
        clear hd
        go_wp2_with fail
        have ha := aw_append_nil h6 nU (by decide) (by decide)
        rw [a_e5, a_l4'] at ha
        refine ha.mono ?_
        clear ha h6
        rintro _ W6 ⟨rfl, h7⟩
        go_wp2_with fail
        have ha := aw_append_nil h7 nB (by decide) (by decide)
        rw [a_e6, a_l5] at ha
        refine ha.mono ?_
        clear ha h7
        rintro _ W7 ⟨rfl, h8⟩
        go_wp2_with fail
        refine (aw_list h8).mono ?_
        clear h8
        rintro _ W8 ⟨v, rfl, hown, h9⟩
        have hown' : W8.ownsRow W7.heap.size 9 1 v [nA, nB].length ([nA, nB].map nmV) := hown
        clear hown
        obtain ⟨A2, c2, rfl, hrd⟩ := owned_nms hown'
        clear hown'
        have hs := SameTexts_any _ _ A2 (some ⟨W8.heap.size, 0, none⟩) c2 2 [nA, nB] [nA, nB] (W8.alloc (.cells #[nmV nA, nmV nB] 9)) (hrd.keep (K' := fun _ => True) (fun b q => heap_alloc_old _ _ q) (fun _ _ => trivial)) (rd_new W8 9 [nmV nA, nmV nB]) (by decide) (by decide)
        rw [decide_eq_true rfl] at hs
        have hbw : Below w.heap.size w (W8.alloc (.cells #[nmV nA, nmV nB] 9)) := h9.low.alloc h9.low.size _
        clear hrd h9
        go_wp2_with fail
        refine hs.mono ?_
        clear hs
        rintro _ _ ⟨rfl, k, rfl⟩
        go_wp2_with fail
        go_ret
        exact ⟨rfl, below_drewN hbw k⟩
    · refine step_make h1 4 (by kernel_rfl) (by decide) (by rfl) _ _ (by rfl) (by rfl) (by rfl) ?_
      clear h1
      intro g4 W1 h1
      refine hK _ _ trivial (fun hS => ?_)
      clear hK K
      try simp only [List.getElem_toArray, List.getElem_cons_zero, List.getElem_cons_succ, Act.put, List.setIfInBounds_toArray, List.set_cons_zero, List.set_cons_succ]
      refine wpAnyH_ready (rs := [2]) (by kernel_rfl) (by simp) (AllReadyH.cons rfl (fun K hK => ?_) AllReadyH.nil)
      go_simp
      refine (aw_append h1 (g := g3) (k := 3) (by simp) (by decide) nA (by decide) (by decide) 3).mono ?_
      rw [a_e1, a_l1]
      clear h1
      rintro _ W1 ⟨rfl, h1⟩
      go_simp
      refine hK _ _ trivial (fun hS => ?_)
      clear hK K
      try simp only [List.getElem_toArray, List.getElem_cons_zero, List.getElem_cons_succ, Act.put, List.setIfInBounds_toArray, List.set_cons_zero, List.set_cons_succ]
      refine wpAnyH_ready (rs := [4]) (by kernel_rfl) (by simp) (AllReadyH.cons rfl (fun K hK => ?_) AllReadyH.nil)
      go_simp
      refine (aw_sync h1 nA (by decide) (g := ⟨nA, zs 3, 0⟩) (by kernel_rfl)).mono ?_
      rw [show (FE.s ⟨nA, zs 3, 0⟩) = nA from rfl, show (FE.l ⟨nA, zs 3, 0⟩) = zs 3 from rfl, a_l2]
      clear h1
      rintro _ W1 ⟨rfl, h1⟩
      go_simp
      refine hK _ _ trivial (fun hS => ?_)
      clear hK K
      try simp only [List.getElem_toArray, List.getElem_cons_zero, List.getElem_cons_succ, Act.put, List.setIfInBounds_toArray, List.set_cons_zero, List.set_cons_succ]
      refine wpAnyH_ready (rs := [7]) (by kernel_rfl) (by simp) (AllReadyH.cons rfl (fun K hK => ?_) AllReadyH.nil)
      go_simp
      refine (aw_append h1 (g := g4) (k := 4) (by simp) (by decide) nA (by decide) (by decide) 4).mono ?_
      rw [a_e3, a_l3]
      clear h1
      rintro _ W1 ⟨rfl, h1⟩
      go_simp
      refine hK _ _ trivial (fun hS => ?_)
      clear hK K
      try simp only [List.getElem_toArray, List.getElem_cons_zero, List.getElem_cons_succ, Act.put, List.setIfInBounds_toArray, List.set_cons_zero, List.set_cons_succ]
      refine wpAnyH_take (i := 8) (v := ?_) rfl (by kernel_rfl) (by kernel_rfl) (by kernel_rfl) (fun _ _ _ h => h) (Or.inl ⟨by rfl, ?_⟩) hS ?_
      rotate_left 1
      · intro w' hSw
        go_simp <;> with_reducible rfl
      try simp only [List.getElem_toArray, List.getElem_cons_zero, List.getElem_cons_succ, Act.put, List.setIfInBounds_toArray, List.set_cons_zero, List.set_cons_succ]
      refine wpAnyH_take (i := 9) (v := ?_) rfl (by kernel_rfl) (by kernel_rfl) (by kernel_rfl) (fun _ _ _ h => h) (Or.inl ⟨by rfl, ?_⟩) hS ?_
      rotate_left 1
      · intro w' hSw
        go_simp <;> with_reducible rfl
      try simp only [List.getElem_toArray, List.getElem_cons_zero, List.getElem_cons_succ, Act.put, List.setIfInBounds_toArray, List.set_cons_zero, List.set_cons_succ]
      refine wpAnyH_take (i := 10) (v := ?_) rfl (by kernel_rfl) (by kernel_rfl) (by kernel_rfl) (fun _ _ _ h => h) (Or.inl ⟨by rfl, ?_⟩) hS ?_
      rotate_left 1
      · intro w' hSw
        go_simp <;> with_reducible rfl
      try simp only [List.getElem_toArray, List.getElem_cons_zero, List.getElem_cons_succ, Act.put, List.setIfInBounds_toArray, List.set_cons_zero, List.set_cons_succ]
      refine wpAnyH_done (by kernel_rfl) ?_ _
      have h2 : Aw w D 8 aL3 2 [] _ := ⟨h1.db.imp fun B q => ⟨q.1, q.2.1, fun x hx => (by cases hx)⟩, h1.low, fun x hx => (by cases hx)⟩
      clear h1
      go_wp2_with fail
      have hu := aw_used h2
      rw [a_u3] at hu
      (with_reducible refine hu.mono ?_)
      rintro _ W2 ⟨rfl, h3⟩
      clear hu h2
      go_wp2_with fail
      have ha := aw_append (h3.make 2) (g := W2.heap.size) (k := 2) (by simp) (by decide) nB (by decide) (by decide) 2
      rw [a_e4, a_l3'] at ha
      refine ha.mono ?_
      clear ha h3
      rintro _ W3 ⟨rfl, h4⟩
      go_wp2_with fail
      have hc := aw_crash h4 1
      rw [a_l4] at hc
      refine hc.mono ?_
      clear hc h4
      rintro _ W4 ⟨rfl, h5⟩
      go_wp2_with fail
      refine (aw_read h5 nA (by decide) (g := ⟨nA, zs 4, 4⟩) (by kernel_rfl)).mono ?_
      clear h5
      rintro _ W5 ⟨A, c, rfl, hd, h6⟩
      rw [show (FE.l ⟨nA, zs 4, 4⟩).length = 4 from rfl]
      clear hd
      go_wp2_with fail
      have ha := aw_append_nil h6 nU (by decide) (by decide)
      rw [a_e5, a_l4'] at ha
      refine ha.mono ?_
      clear ha h6
      rintro _ W6 ⟨rfl, h7⟩
      go_wp2_with fail
      have ha := aw_append_nil h7 nB (by decide) (by decide)
      rw [a_e6, a_l5] at ha
      refine ha.mono ?_
      clear ha h7
      rintro _ W7 ⟨rfl, h8⟩
      go_wp2_with fail
      refine (aw_list h8).mono ?_
      clear h8
      rintro _ W8 ⟨v, rfl, hown, h9⟩
      have hown' : W8.ownsRow W7.heap.size 9 1 v [nA, nB].length ([nA, nB].map nmV) := hown
      clear hown
      obtain ⟨A2, c2, rfl, hrd⟩ := owned_nms hown'
      clear hown'
      have hs := SameTexts_any _ _ A2 (some ⟨W8.heap.size, 0, none⟩) c2 2 [nA, nB] [nA, nB] (W8.alloc (.cells #[nmV nA, nmV nB] 9)) (hrd.keep (K' := fun _ => True) (fun b q => heap_alloc_old _ _ q) (fun _ _ => trivial)) (rd_new W8 9 [nmV nA, nmV nB]) (by decide) (by decide)
      rw [decide_eq_true rfl] at hs
      have hbw : Below w.heap.size w (W8.alloc (.cells #[nmV nA, nmV nB] 9)) := h9.low.alloc h9.low.size _
      clear hrd h9
      go_wp2_with fail
      refine hs.mono ?_
      clear hs
      rintro _ _ ⟨rfl, k, rfl⟩
      go_wp2_with fail
      go_ret
      exact ⟨rfl, below_drewN hbw k⟩
  · refine step_make h1 4 (by kernel_rfl) (by decide) (by rfl) _ _ (by rfl) (by rfl) (by rfl) ?_
    clear h1
    intro g4 W1 h1
    refine hK _ _ trivial (fun hS => ?_)
    clear hK K
    try simp only [List.getElem_toArray, List.getElem_cons_zero, List.getElem_cons_succ, Act.put, List.setIfInBounds_toArray, List.set_cons_zero, List.set_cons_succ]
    refine wpAnyH_ready (rs := [1]) (by kernel_rfl) (by simp) (AllReadyH.cons rfl (fun K hK => ?_) AllReadyH.nil)
    refine step_make h1 3 (by kernel_rfl) (by decide) (by rfl) _ _ (by rfl) (by rfl) (by rfl) ?_
    clear h1
    intro g3 W1 h1
    refine hK _ _ trivial (fun hS => ?_)
    clear hK K
    try simp only [List.getElem_toArray, List.getElem_cons_zero, List.getElem_cons_succ, Act.put, List.setIfInBounds_toArray, List.set_cons_zero, List.set_cons_succ]
    refine wpAnyH_ready (rs := [2]) (by kernel_rfl) (by simp) (AllReadyH.cons rfl (fun K hK => ?_) AllReadyH.nil)
    go_simp
    refine (aw_append h1 (g := g3) (k := 3) (by simp) (by decide) nA (by decide) (by decide) 3).mono ?_
    rw [a_e1, a_l1]
    clear h1
    rintro _ W1 ⟨rfl, h1⟩
    go_simp
    refine hK _ _ trivial (fun hS => ?_)
    clear hK K
    try simp only [List.getElem_toArray, List.getElem_cons_zero, List.getElem_cons_succ, Act.put, List.setIfInBounds_toArray, List.set_cons_zero, List.set_cons_succ]
    refine wpAnyH_ready (rs := [4]) (by kernel_rfl) (by simp) (AllReadyH.cons rfl (fun K hK => ?_) AllReadyH.nil)
    go_simp
    refine (aw_sync h1 nA (by decide) (g := ⟨nA, zs 3, 0⟩) (by kernel_rfl)).mono ?_
    rw [show (FE.s ⟨nA, zs 3, 0⟩) = nA from rfl, show (FE.l ⟨nA, zs 3, 0⟩) = zs 3 from rfl, a_l2]
    clear h1
    rintro _ W1 ⟨rfl, h1⟩
    go_simp
    refine hK _ _ trivial (fun hS => ?_)
    clear hK K
    try simp only [List.getElem_toArray, List.getElem_cons_zero, List.getElem_cons_succ, Act.put, List.setIfInBounds_toArray, List.set_cons_zero, List.set_cons_succ]
    refine wpAnyH_ready (rs := [7]) (by kernel_rfl) (by simp) (AllReadyH.cons rfl (fun K hK => ?_) AllReadyH.nil)
    go_simp
    refine (aw_append h1 (g := g4) (k := 4) (by simp) (by decide) nA (by decide) (by decide) 4).mono ?_
    rw [a_e3, a_l3]
    clear h1
    rintro _ W1 ⟨rfl, h1⟩
    go_simp
    refine hK _ _ trivial (fun hS => ?_)
    clear hK K
    try simp only [List.getElem_toArray, List.getElem_cons_zero, List.getElem_cons_succ, Act.put, List.setIfInBounds_toArray, List.set_cons_zero, List.set_cons_succ]
    refine wpAnyH_take (i := 8) (v := ?_) rfl (by kernel_rfl) (by kernel_rfl) (by kernel_rfl) (fun _ _ _ h => h) (Or.inl ⟨by rfl, ?_⟩) hS ?_
    rotate_left 1
    · intro w' hSw
      go_simp <;> with_reducible rfl
    try simp only [List.getElem_toArray, List.getElem_cons_zero, List.getElem_cons_succ, Act.put, List.setIfInBounds_toArray, List.set_cons_zero, List.set_cons_succ]
    refine wpAnyH_take (i := 9) (v := ?_) rfl (by kernel_rfl) (by kernel_rfl) (by kernel_rfl) (fun _ _ _ h => h) (Or.inl ⟨by rfl, ?_⟩) hS ?_
    rotate_left 1
    · intro w' hSw
      go_simp <;> with_reducible rfl
    try simp only [List.getElem_toArray, List.getElem_cons_zero, List.getElem_cons_succ, Act.put, List.setIfInBounds_toArray, List.set_cons_zero, List.set_cons_succ]
    refine wpAnyH_take (i := 10) (v := ?_) rfl (by kernel_rfl) (by kernel_rfl) (by kernel_rfl) (fun _ _ _ h => h) (Or.inl ⟨by rfl, ?_⟩) hS ?_
    rotate_left 1
    · intro w' hSw
      go_simp <;> with_reducible rfl
    try simp only [List.getElem_toArray, List.getElem_cons_zero, List.getElem_cons_succ, Act.put, List.setIfInBounds_toArray, List.set_cons_zero, List.set_cons_succ]
    refine wpAnyH_done (by kernel_rfl) ?_ _
    have h2 : Aw w D 8 aL3 2 [] _ := ⟨h1.db.imp fun B q => ⟨q.1, q.2.1, fun x hx => (by cases hx)⟩, h1.low, fun x hx => (by cases hx)⟩
    clear h1
    go_wp2_with fail
    have hu := aw_used h2
    rw [a_u3] at hu
    (with_reducible refine hu.mono ?_)
    rintro _ W2 ⟨rfl, h3⟩
    clear hu h2
    go_wp2_with fail
    have ha := aw_append (h3.make 2) (g := W2.heap.size) (k := 2) (by simp) (by decide) nB (by decide) (by decide) 2
    rw [a_e4, a_l3'] at ha
    refine ha.mono ?_
    clear ha h3
    rintro _ W3 ⟨rfl, h4⟩
    go_wp2_with fail
    have hc := aw_crash h4 1
    rw [a_l4] at hc
    refine hc.mono ?_
    clear hc h4
    rintro _ W4 ⟨rfl, h5⟩
    go_wp2_with fail
    refine (aw_read h5 nA (by decide) (g := ⟨nA, zs 4, 4⟩) (by kernel_rfl)).mono ?_
    clear h5
    rintro _ W5 ⟨A, c, rfl, hd, h6⟩
    rw [show (FE.l ⟨nA, zs 4, 4⟩).length = 4 from rfl]
    clear hd
    go_wp2_with fail
    have ha := aw_append_nil h6 nU (by decide) (by decide)
    rw [a_e5, a_l4'] at ha
    refine ha.mono ?_
    clear ha h6
    rintro _ W6 ⟨rfl, h7⟩
    go_wp2_with fail
    have ha := aw_append_nil h7 nB (by decide) (by decide)
    rw [a_e6, a_l5] at ha
    refine ha.mono ?_
    clear ha h7
    rintro _ W7 ⟨rfl, h8⟩
    go_wp2_with fail
    refine (aw_list h8).mono ?_
    clear h8
    rintro _ W8 ⟨v, rfl, hown, h9⟩
    have hown' : W8.ownsRow W7.heap.size 9 1 v [nA, nB].length ([nA, nB].map nmV) := hown
    clear hown
    obtain ⟨A2, c2, rfl, hrd⟩ := owned_nms hown'
    clear hown'
    have hs := SameTexts_any _ _ A2 (some ⟨W8.heap.size, 0, none⟩) c2 2 [nA, nB] [nA, nB] (W8.alloc (.cells #[nmV nA, nmV nB] 9)) (hrd.keep (K' := fun _ => True) (fun b q => heap_alloc_old _ _ q) (fun _ _ => trivial)) (rd_new W8 9 [nmV nA, nmV nB]) (by decide) (by decide)
    rw [decide_eq_true rfl] at hs
    have hbw : Below w.heap.size w (W8.alloc (.cells #[nmV nA, nmV nB] 9)) := h9.low.alloc h9.low.size _
    clear hrd h9
    go_wp2_with fail
    refine hs.mono ?_
    clear hs
    rintro _ _ ⟨rfl, k, rfl⟩
    go_wp2_with fail
    go_ret
    exact ⟨rfl, below_drewN hbw k⟩
end Go.Proofs.YtcmbeolicopicaaGreat

