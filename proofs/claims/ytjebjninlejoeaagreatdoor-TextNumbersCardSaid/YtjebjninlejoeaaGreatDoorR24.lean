/- text: TextNumbers walked. -/
import Derived.Laws.IdiomStrings
import Derived.Test.YtjebjninlejoeaaGreatDoorZU
namespace Go.Proofs.YtjebjninlejoeaaGreatDoor
open Go.RowKit Go.Maps Go.ChangeMaps
set_option linter.unusedVariables false
set_option linter.unusedSimpArgs false
set_option linter.unusedSectionVars false
set_option maxRecDepth 100000

theorem sz_mk (a : Array UInt8) : (ByteArray.mk a).size = a.size := rfl
/-- The lists of texts stand. -/
structure KW (w : World) (g1 : Nat) (L1 : List ByteArray) (g2 : Nat) (L2 : List ByteArray) (g3 : Nat) (L3 : List ByteArray) (W : World) : Prop where
  low : Below w.heap.size w W
  s1 : Sb W g1 L1
  s2 : Sb W g2 L2
  s3 : Sb W g3 L3
theorem KW.step {w W W' : World} {g1 g2 g3 : Nat} {L1 L2 L3 : List ByteArray} (h : KW w g1 L1 g2 L2 g3 L3 W) (hb : Below W.heap.size W W') : KW w g1 L1 g2 L2 g3 L3 W' :=
  ⟨h.low.trans (hb.mono h.low.size), h.s1.below hb, h.s2.below hb, h.s3.below hb⟩
theorem pcs_of {x : ByteArray} (h : okL x = true) : ∃ L : List ByteArray, L.length ≤ 21 ∧ (∀ y ∈ L, y.size ≤ 40) ∧ ∀ (B : Nat) (W : World), Tv B W → Calls Tryz.prog 21 #[.string x, .string ⟨#[32]⟩] W fun e w' => e = .returned (.slice (some ⟨W.heap.size, 0, none⟩) L.length L.length) ∧ Sb w' W.heap.size L ∧ Below W.heap.size W w' := by
  have h0 := h
  unfold okL at h
  simp only [Bool.and_eq_true, decide_eq_true_eq, List.all_eq_true] at h
  obtain ⟨⟨⟨⟨⟨⟨h1, h2⟩, h3⟩, h4⟩, h5⟩, h6⟩, h7⟩ := h
  exact ⟨pcs x ⟨#[32]⟩, by omega, h5, fun B W hv => split_B x ⟨#[32]⟩ (by omega) (by decide) h3.symm W hv⟩
theorem pcs_is {s sep : ByteArray} {n : Nat} (P : ByteArray → Bool) (h : (pcs s sep).all P = true ∧ (pcs s sep).length = n ∧ Lib.countB s sep + 1 = n) (hs : s.size ≤ 100000) (h1 : 1 ≤ sep.size) : ∃ L : List ByteArray, L.length = n ∧ (∀ y ∈ L, P y = true) ∧ ∀ (B : Nat) (W : World), Tv B W → Calls Tryz.prog 21 #[.string s, .string sep] W fun e w' => e = .returned (.slice (some ⟨W.heap.size, 0, none⟩) n n) ∧ Sb w' W.heap.size L ∧ Below W.heap.size W w' :=
  ⟨pcs s sep, h.2.1, List.all_eq_true.1 h.1, fun B W hv => split_B s sep hs h1 h.2.2 W hv⟩
theorem okL_size {x : ByteArray} (h : okL x = true) : x.size ≤ 40 := by
  unfold okL at h
  simp only [Bool.and_eq_true, decide_eq_true_eq] at h
  exact h.1.1.1.1.1.1
set_option maxHeartbeats 8000000 in
theorem textNumbers_any (w : World) (hv : Tv w.heap.size w) : Calls Tryz.prog 7 #[] w fun e w' => e = .returned (.bool true) ∧ Below w.heap.size w w' := by
  have HT := Lib.hid (fun (W : World) (hW : Below w.heap.size w W) => (show Tv w.heap.size W from hv.below hW (Nat.le_refl _)))
  have HP := Lib.hid (fun (s : ByteArray) (hs : s.size ≤ 100000000) (W : World) (hW : Below w.heap.size w W) => parses_B s hs W (HT.out W hW) hW.size)
  obtain ⟨L1, hl1, hL1, hS1⟩ := pcs_is okL ⟨lines_ok.1, lines_ok.2.1, by rw [lines_ok.2.2]⟩ (by decide) (by decide)
  obtain ⟨L2, hl2, hL2, hS2⟩ := pcs_is (fun y => decide (y.size ≤ 40)) ⟨other_ok.1, other_ok.2.1, by rw [other_ok.2.2]⟩ (by decide) (by decide)
  obtain ⟨L4, hl4, hL4, hS4⟩ := pcs_is (fun y => decide (y.size ≤ 40)) ⟨nums_ok.1, nums_ok.2.1, by rw [nums_ok.2.2]⟩ (by decide) (by decide)
  unfold linesB at hS1
  unfold otherB at hS2
  unfold numsB at hS4
  have HL1 := Lib.hid hL1
  have HL2 := Lib.hid hL2
  have HL4 := Lib.hid hL4
  have HS4 := Lib.hid hS4
  have H1 := Lib.hid (hS1 _ w hv)
  have HS2 := Lib.hid (fun (W : World) (hW : Below w.heap.size w W) => hS2 _ W (HT.out W hW))
  clear hL1 hL2 hL4 hS1 hS2 hS4 hv
  go_enter Tryz.func7, Tryz.ntmps7
  go_wp2_with fail
  (with_reducible refine H1.out.mono ?_)
  rintro _ w1 ⟨rfl, s1, b1⟩
  have K1 := Lib.hid (show KW w w.heap.size L1 w.heap.size L1 w.heap.size L1 w1 from ⟨b1, s1, s1, s1⟩)
  clear s1 b1 H1
  go_wp2_with fail
  (with_reducible refine (HS2.out w1 K1.out.low).mono ?_)
  rintro _ w2 ⟨rfl, s2, b2⟩
  have K2 := Lib.hid (show KW w w.heap.size L1 w1.heap.size L2 w1.heap.size L2 w2 from ⟨(K1.out.step b2).low, (K1.out.step b2).s1, s2, s2⟩)
  clear s2 b2 K1 HS2
  obtain ⟨g1, hg1⟩ : ∃ g1, g1 = w.heap.size := ⟨_, rfl⟩
  rw [← hg1] at K2 ⊢
  obtain ⟨g2, hg2⟩ : ∃ g2, g2 = w1.heap.size := ⟨_, rfl⟩
  rw [← hg2] at K2 ⊢
  clear hg2 hg1
  go_wp2_with fail
  go_loopw [3] (fun i wr => ∃ k : Nat, k ≤ 15 ∧ i = .int .i64 k ∧ Hid (KW w g1 L1 g2 L2 g2 L2 wr)) (fun i _ => 15 - (intOf i).toNat)
  case atStart => exact ⟨0, Nat.zero_le _, rfl, K2⟩
  case round =>
    clear K2
    obtain ⟨k, hk, rfl, KR⟩ := hrel
    by_cases hlt : k < 15
    · have d1 : decide ((k : Int) < 15) = true := decide_eq_true (by omega)
      obtain ⟨x, hx⟩ : ∃ x, L1[k]? = some x := ⟨L1[k]'(by omega), List.getElem?_eq_getElem _⟩
      have HX := Lib.hid hx
      have hok := HL1.out x (List.mem_of_getElem? hx)
      have HOK := Lib.hid hok
      obtain ⟨L3, hl3, hM3, hS3⟩ := pcs_of hok
      have HM3 := Lib.hid hM3
      have HS3 := Lib.hid (fun (W : World) (hW : Below w.heap.size w W) => hS3 _ W (HT.out W hW))
      have c1 := KR.out.s1.at_ hx
      have q1 : (0 : Int) ≤ (k : Int) := by omega
      have q2 : (k : Int) < 15 := by omega
      clear hx hok hM3 hS3
      go_wp2_with fail
      (with_reducible refine (HS3.out wr KR.out.low).mono ?_)
      rintro _ w3 ⟨rfl, s3, b3⟩
      have K3 := Lib.hid (show KW w g1 L1 g2 L2 wr.heap.size L3 w3 from ⟨(KR.out.step b3).low, (KR.out.step b3).s1, (KR.out.step b3).s2, s3⟩)
      clear s3 b3 KR HS3 c1
      obtain ⟨g3, hg3⟩ : ∃ g3, g3 = wr.heap.size := ⟨_, rfl⟩
      rw [← hg3] at K3 ⊢
      clear hg3
      go_wp2_with fail
      go_loopw [5] (fun i wx => ∃ j : Nat, j ≤ L3.length ∧ i = .int .i64 j ∧ Hid (KW w g1 L1 g2 L2 g3 L3 wx)) (fun i _ => L3.length - (intOf i).toNat)
      case atStart => exact ⟨0, Nat.zero_le _, rfl, K3⟩
      case round =>
        clear K3
        obtain ⟨j, hj, rfl, KX⟩ := hrel
        by_cases hjl : j < L3.length
        · have d2 : decide ((j : Int) < (L3.length : Int)) = true := decide_eq_true (by omega)
          obtain ⟨y, hy⟩ : ∃ y, L3[j]? = some y := ⟨L3[j], List.getElem?_eq_getElem hjl⟩
          have HY := Lib.hid hy
          have hys : y.size ≤ 40 := HM3.out y (List.mem_of_getElem? hy)
          have p1 : (0 : Int) ≤ (j : Int) := by omega
          have p2 : (j : Int) < (L3.length : Int) := by omega
          have p3 : (j : Int) ≤ (L3.length : Int) := by omega
          have p4 : (j : Int) + 1 ≤ (L3.length : Int) := by omega
          have hj1 := fun (W : World) (hs : Sb W g3 L3) => join_any (w0 := w) g3 0 L3.length L3 (L3.take j) hs (fun q z hz => by rw [List.getElem?_take] at hz; split at hz; (rw [Nat.zero_add]; exact hz); cases hz) (by rw [List.length_take]; omega) (by rw [List.length_take]; omega) HM3.out
          obtain ⟨A9, hA9⟩ : ∃ A9 : Option Addr, (if L3.length = j + 1 then some (⟨g3, 0, none⟩ : Addr) else some ⟨g3, j + 1, none⟩) = A9 := ⟨_, rfl⟩
          have hj2 : ∀ (W : World) (hs : Sb W g3 L3), Calls Tryz.prog 22 #[.slice A9 (L3.length - (j + 1)) (L3.length - (j + 1)), .string ⟨#[32]⟩] W fun e w' => ∃ t : ByteArray, e = .returned (.string t) ∧ t.size ≤ 1000 ∧ Below W.heap.size W w' := fun W hs => by
            by_cases hend : L3.length = j + 1
            · rw [if_pos hend] at hA9
              subst hA9
              have := join_any (w0 := w) g3 0 0 L3 [] hs (fun q z hz => by simp at hz) (by simp) (by simp) HM3.out
              rw [show L3.length - (j + 1) = 0 by omega]
              exact this
            · rw [if_neg hend] at hA9
              subst hA9
              have := join_any (w0 := w) g3 (j + 1) (L3.length - (j + 1)) L3 (L3.drop (j + 1)) hs (fun q z hz => by rw [List.getElem?_drop] at hz; exact hz) (by rw [List.length_drop]; omega) (by rw [List.length_drop]; omega) HM3.out
              rw [List.length_drop] at this
              exact this
          have p5 : IntKind.i64.wrap ((j : Int) + 1) = (j : Int) + 1 := IntWalk.i64_in _ (by omega)
          have p6 : ((j : Int) + 1).toNat = j + 1 := by omega
          have p7 : (0 : Int) ≤ (j : Int) + 1 := by omega
          have e1 : (L3.take j).length = j := by rw [List.length_take]; omega
          rw [e1] at hj1
          clear hy e1
          go_upto_region 10 with fail
          refine wp_region_held_drew (S := fun W => KW w g1 L1 g2 L2 g3 L3 W) (by kernel_rfl) (KX.out.step ((Below.refl _ _).drew)) (fun hS => ?_)
          refine wpAnyH_take (i := 0) (v := ?_) rfl (by kernel_rfl) (by kernel_rfl) (by kernel_rfl) (fun _ _ _ h => h) (Or.inl ⟨by rfl, ?_⟩) hS ?_
          rotate_left 1
          · intro w' hSw
            go_simp <;> with_reducible rfl
          try simp only [List.getElem_toArray, List.getElem_cons_zero, List.getElem_cons_succ, Act.put, List.setIfInBounds_toArray, List.set_cons_zero, List.set_cons_succ]
          refine wpAnyH_take (i := 1) (v := ?_) rfl (by kernel_rfl) (by kernel_rfl) (by kernel_rfl) (fun _ _ _ h => h) (Or.inl ⟨by rfl, ?_⟩) hS ?_
          rotate_left 1
          · intro w' hSw
            go_simp <;> with_reducible rfl
          try simp only [List.getElem_toArray, List.getElem_cons_zero, List.getElem_cons_succ, Act.put, List.setIfInBounds_toArray, List.set_cons_zero, List.set_cons_succ]
          refine wpAnyH_take (i := 4) (v := ?_) rfl (by kernel_rfl) (by kernel_rfl) (by kernel_rfl) (fun _ _ _ h => h) (Or.inl ⟨by rfl, ?_⟩) hS ?_
          rotate_left 1
          · intro w' hSw
            go_simp <;> with_reducible rfl
          try simp only [List.getElem_toArray, List.getElem_cons_zero, List.getElem_cons_succ, Act.put, List.setIfInBounds_toArray, List.set_cons_zero, List.set_cons_succ]
          refine wpAnyH_take (i := 5) (v := ?_) rfl (by kernel_rfl) (by kernel_rfl) (by kernel_rfl) (fun _ _ _ h => h) (Or.inl ⟨by rfl, ?_⟩) hS ?_
          rotate_left 1
          · intro w' hSw
            go_simp <;> with_reducible rfl
          try simp only [List.getElem_toArray, List.getElem_cons_zero, List.getElem_cons_succ, Act.put, List.setIfInBounds_toArray, List.set_cons_zero, List.set_cons_succ]
          refine wpAnyH_take (i := 2) (v := ?_) rfl (by kernel_rfl) (by kernel_rfl) (by kernel_rfl) (fun _ _ _ h => h) (Or.inl ⟨by rfl, ?_⟩) hS ?_
          rotate_left 1
          · intro w' hSw
            go_simp <;> with_reducible rfl
          try simp only [List.getElem_toArray, List.getElem_cons_zero, List.getElem_cons_succ, Act.put, List.setIfInBounds_toArray, List.set_cons_zero, List.set_cons_succ]
          refine wpAnyH_take (i := 6) (v := ?_) rfl (by kernel_rfl) (by kernel_rfl) (by kernel_rfl) (fun _ _ _ h => h) (Or.inl ⟨by rfl, ?_⟩) hS ?_
          rotate_left 1
          · intro w' hSw
            go_simp <;> with_reducible rfl
          try simp only [List.getElem_toArray, List.getElem_cons_zero, List.getElem_cons_succ, Act.put, List.setIfInBounds_toArray, List.set_cons_zero, List.set_cons_succ]
          refine wpAnyH_take (i := 7) (v := ?_) rfl (by kernel_rfl) (by kernel_rfl) (by kernel_rfl) (fun _ _ _ h => h) (Or.inl ⟨by rfl, ?_⟩) hS ?_
          rotate_left 1
          · intro w' hSw
            go_simp <;> with_reducible rfl
          try simp only [List.getElem_toArray, List.getElem_cons_zero, List.getElem_cons_succ, Act.put, List.setIfInBounds_toArray, List.set_cons_zero, List.set_cons_succ]
          refine wpAnyH_ready (rs := [3]) (by kernel_rfl) (by simp) (AllReadyH.cons rfl (fun K hK => ?_) AllReadyH.nil)
          go_simp
          with_reducible refine (hj1 _ hS.s3).mono ?_
          rintro _ wa ⟨ft, rfl, hft, ba⟩
          go_simp
          refine hK _ _ (hS.step ba) (fun hS => ?_)
          clear hK K ba
          try simp only [List.getElem_toArray, List.getElem_cons_zero, List.getElem_cons_succ, Act.put, List.setIfInBounds_toArray, List.set_cons_zero, List.set_cons_succ]
          refine wpAnyH_ready (rs := [8]) (by kernel_rfl) (by simp) (AllReadyH.cons rfl (fun K hK => ?_) AllReadyH.nil)
          go_simp
          with_reducible refine (hj2 _ hS.s3).mono ?_
          rintro _ wb ⟨rt, rfl, hrt, bb⟩
          go_simp
          refine hK _ _ (hS.step bb) (fun hS => ?_)
          clear hK K bb
          try simp only [List.getElem_toArray, List.getElem_cons_zero, List.getElem_cons_succ, Act.put, List.setIfInBounds_toArray, List.set_cons_zero, List.set_cons_succ]
          refine wpAnyH_take (i := 9) (v := ?_) rfl (by kernel_rfl) (by kernel_rfl) (by kernel_rfl) (fun _ _ _ h => h) (Or.inl ⟨by rfl, ?_⟩) hS ?_
          rotate_left 1
          · intro w' hSw
            go_simp <;> with_reducible rfl
          try simp only [List.getElem_toArray, List.getElem_cons_zero, List.getElem_cons_succ, Act.put, List.setIfInBounds_toArray, List.set_cons_zero, List.set_cons_succ]
          refine wpAnyH_take (i := 10) (v := ?_) rfl (by kernel_rfl) (by kernel_rfl) (by kernel_rfl) (fun _ _ _ h => h) (Or.inl ⟨by rfl, ?_⟩) hS ?_
          rotate_left 1
          · intro w' hSw
            go_simp <;> with_reducible rfl
          try simp only [List.getElem_toArray, List.getElem_cons_zero, List.getElem_cons_succ, Act.put, List.setIfInBounds_toArray, List.set_cons_zero, List.set_cons_succ]
          refine wpAnyH_done (by kernel_rfl) ?_ _
          clear hj1 hj2 hA9
          have z0 : ¬ 9223372036854775807 < 3 + ft.size := by omega
          have z1 : ¬ 9223372036854775807 < 3 + ft.size + 1 := by omega
          have z2 : ¬ 9223372036854775807 < 3 + ft.size + 1 + rt.size := by omega
          have z3 : ¬ 9223372036854775807 < ft.size + 1 := by omega
          have z4 : ¬ 9223372036854775807 < ft.size + 1 + y.size := by omega
          have z5 : ¬ 9223372036854775807 < ft.size + 1 + y.size + 1 := by omega
          have z6 : ¬ 9223372036854775807 < ft.size + 1 + y.size + 1 + y.size := by omega
          have z7 : ¬ 9223372036854775807 < ft.size + 1 + y.size + 1 + y.size + 1 := by omega
          have z8 : ¬ 9223372036854775807 < ft.size + 1 + y.size + 1 + y.size + 1 + rt.size := by omega
          have z9 : ¬ 9223372036854775807 < ft.size + 1 + y.size + 1 + y.size + 1 + rt.size + 3 := by omega
          have KY := Lib.hid hS
          clear hS
          have cy := KY.out.s3.at_ HY.out
          go_upto_region 11 with fail
          refine wp_region_held_drew (S := fun W => W.cell? ⟨g3, j, none⟩ = some (.string y) ∧ KW w g1 L1 g2 L2 g3 L3 W) (by kernel_rfl) ⟨cy, KY.out.step ((Below.refl _ _).drew)⟩ (fun hS => ?_)
          refine wpAnyH_take (i := 0) (v := ?_) rfl (by kernel_rfl) (by kernel_rfl) (by kernel_rfl) (fun _ _ _ h => h) (Or.inl ⟨by rfl, ?_⟩) hS ?_
          rotate_left 1
          · intro w' hSw
            go_simp <;> with_reducible rfl
          try simp only [List.getElem_toArray, List.getElem_cons_zero, List.getElem_cons_succ, Act.put, List.setIfInBounds_toArray, List.set_cons_zero, List.set_cons_succ]
          refine wpAnyH_take (i := 1) (v := ?_) rfl (by kernel_rfl) (by kernel_rfl) (by kernel_rfl) (fun _ _ _ h => h) (Or.inl ⟨by rfl, ?_⟩) hS ?_
          rotate_left 1
          · intro w' hSw
            go_simp <;> with_reducible rfl
          try simp only [List.getElem_toArray, List.getElem_cons_zero, List.getElem_cons_succ, Act.put, List.setIfInBounds_toArray, List.set_cons_zero, List.set_cons_succ]
          refine wpAnyH_take (i := 2) (v := ?_) rfl (by kernel_rfl) (by kernel_rfl) (by kernel_rfl) (fun _ _ _ h => h) (Or.inl ⟨by rfl, ?_⟩) hS ?_
          rotate_left 1
          · intro w' hSw
            go_simp <;> with_reducible rfl
          try simp only [List.getElem_toArray, List.getElem_cons_zero, List.getElem_cons_succ, Act.put, List.setIfInBounds_toArray, List.set_cons_zero, List.set_cons_succ]
          refine wpAnyH_take (i := 3) (v := ?_) rfl (by kernel_rfl) (by kernel_rfl) (by kernel_rfl) (fun _ _ _ h => h) (Or.inl ⟨by rfl, ?_⟩) hS ?_
          rotate_left 1
          · intro w' hSw
            go_simp <;> with_reducible rfl
          try simp only [List.getElem_toArray, List.getElem_cons_zero, List.getElem_cons_succ, Act.put, List.setIfInBounds_toArray, List.set_cons_zero, List.set_cons_succ]
          refine wpAnyH_take (i := 4) (v := ?_) rfl (by kernel_rfl) (by kernel_rfl) (by kernel_rfl) (fun _ _ _ h => h) (Or.inl ⟨by rfl, ?_⟩) hS ?_
          rotate_left 1
          · intro w' hSw
            go_simp <;> with_reducible rfl
          try simp only [List.getElem_toArray, List.getElem_cons_zero, List.getElem_cons_succ, Act.put, List.setIfInBounds_toArray, List.set_cons_zero, List.set_cons_succ]
          refine wpAnyH_ready (rs := [5]) (by kernel_rfl) (by simp) (AllReadyH.cons rfl (fun K hK => ?_) AllReadyH.nil)
          go_simp
          with_reducible refine (HP.out _ (by first | omega | (simp only [ByteArray.size_append, sz_mk, List.size_toArray, List.length_cons, List.length_nil]; omega)) _ hS.2.low).mono ?_
          rintro _ wp ⟨rfl, bp⟩
          go_simp
          refine hK _ _ ⟨(hS.2.step bp).s3.at_ HY.out, hS.2.step bp⟩ (fun hS => ?_)
          clear hK K bp
          try simp only [List.getElem_toArray, List.getElem_cons_zero, List.getElem_cons_succ, Act.put, List.setIfInBounds_toArray, List.set_cons_zero, List.set_cons_succ]
          refine wpAnyH_take (i := 6) (v := ?_) rfl (by kernel_rfl) (by kernel_rfl) (by kernel_rfl) (fun _ _ _ h => h) (Or.inl ⟨by rfl, ?_⟩) hS ?_
          rotate_left 1
          · intro w' hSw
            go_simp <;> with_reducible rfl
          try simp only [List.getElem_toArray, List.getElem_cons_zero, List.getElem_cons_succ, Act.put, List.setIfInBounds_toArray, List.set_cons_zero, List.set_cons_succ]
          refine wpAnyH_take (i := 7) (v := ?_) rfl (by kernel_rfl) (by kernel_rfl) (by kernel_rfl) (fun _ _ _ h => h) (Or.inl ⟨by rfl, ?_⟩) hS ?_
          rotate_left 1
          · intro w' hSw
            go_simp <;> with_reducible rfl
          try simp only [List.getElem_toArray, List.getElem_cons_zero, List.getElem_cons_succ, Act.put, List.setIfInBounds_toArray, List.set_cons_zero, List.set_cons_succ]
          refine wpAnyH_take (i := 8) (v := ?_) rfl (by kernel_rfl) (by kernel_rfl) (by kernel_rfl) (fun _ _ _ h => h) (Or.inl ⟨by go_simp, ?_⟩) hS ?_
          rotate_left 1
          · intro w' hSw
            go_simp <;> with_reducible rfl
          try simp only [List.getElem_toArray, List.getElem_cons_zero, List.getElem_cons_succ, Act.put, List.setIfInBounds_toArray, List.set_cons_zero, List.set_cons_succ]
          refine wpAnyH_ready (rs := [9]) (by kernel_rfl) (by simp) (AllReadyH.cons rfl (fun K hK => ?_) AllReadyH.nil)
          go_simp
          with_reducible refine (HP.out _ (by first | omega | (simp only [ByteArray.size_append, sz_mk, List.size_toArray, List.length_cons, List.length_nil]; omega)) _ hS.2.low).mono ?_
          rintro _ wp ⟨rfl, bp⟩
          go_simp
          refine hK _ _ ⟨(hS.2.step bp).s3.at_ HY.out, hS.2.step bp⟩ (fun hS => ?_)
          clear hK K bp
          try simp only [List.getElem_toArray, List.getElem_cons_zero, List.getElem_cons_succ, Act.put, List.setIfInBounds_toArray, List.set_cons_zero, List.set_cons_succ]
          refine wpAnyH_take (i := 10) (v := ?_) rfl (by kernel_rfl) (by kernel_rfl) (by kernel_rfl) (fun _ _ _ h => h) (Or.inl ⟨by go_simp, ?_⟩) hS ?_
          rotate_left 1
          · intro w' hSw
            go_simp <;> with_reducible rfl
          try simp only [List.getElem_toArray, List.getElem_cons_zero, List.getElem_cons_succ, Act.put, List.setIfInBounds_toArray, List.set_cons_zero, List.set_cons_succ]
          refine wpAnyH_take (i := 11) (v := ?_) rfl (by kernel_rfl) (by kernel_rfl) (by kernel_rfl) (fun _ _ _ h => h) (Or.inl ⟨by rfl, ?_⟩) hS ?_
          rotate_left 1
          · intro w' hSw
            go_simp <;> with_reducible rfl
          try simp only [List.getElem_toArray, List.getElem_cons_zero, List.getElem_cons_succ, Act.put, List.setIfInBounds_toArray, List.set_cons_zero, List.set_cons_succ]
          refine wpAnyH_take (i := 12) (v := ?_) rfl (by kernel_rfl) (by kernel_rfl) (by kernel_rfl) (fun _ _ _ h => h) (Or.inl ⟨by rfl, ?_⟩) hS ?_
          rotate_left 1
          · intro w' hSw
            go_simp <;> with_reducible rfl
          try simp only [List.getElem_toArray, List.getElem_cons_zero, List.getElem_cons_succ, Act.put, List.setIfInBounds_toArray, List.set_cons_zero, List.set_cons_succ]
          refine wpAnyH_take (i := 13) (v := ?_) rfl (by kernel_rfl) (by kernel_rfl) (by kernel_rfl) (fun _ _ _ h => h) (Or.inl ⟨by go_simp, ?_⟩) hS ?_
          rotate_left 1
          · intro w' hSw
            go_simp <;> with_reducible rfl
          try simp only [List.getElem_toArray, List.getElem_cons_zero, List.getElem_cons_succ, Act.put, List.setIfInBounds_toArray, List.set_cons_zero, List.set_cons_succ]
          refine wpAnyH_take (i := 14) (v := ?_) rfl (by kernel_rfl) (by kernel_rfl) (by kernel_rfl) (fun _ _ _ h => h) (Or.inl ⟨by go_simp, ?_⟩) hS ?_
          rotate_left 1
          · intro w' hSw
            go_simp <;> with_reducible rfl
          try simp only [List.getElem_toArray, List.getElem_cons_zero, List.getElem_cons_succ, Act.put, List.setIfInBounds_toArray, List.set_cons_zero, List.set_cons_succ]
          refine wpAnyH_take (i := 15) (v := ?_) rfl (by kernel_rfl) (by kernel_rfl) (by kernel_rfl) (fun _ _ _ h => h) (Or.inl ⟨by go_simp, ?_⟩) hS ?_
          rotate_left 1
          · intro w' hSw
            go_simp <;> with_reducible rfl
          try simp only [List.getElem_toArray, List.getElem_cons_zero, List.getElem_cons_succ, Act.put, List.setIfInBounds_toArray, List.set_cons_zero, List.set_cons_succ]
          refine wpAnyH_take (i := 16) (v := ?_) rfl (by kernel_rfl) (by kernel_rfl) (by kernel_rfl) (fun _ _ _ h => h) (Or.inl ⟨by go_simp, ?_⟩) hS ?_
          rotate_left 1
          · intro w' hSw
            go_simp <;> with_reducible rfl
          try simp only [List.getElem_toArray, List.getElem_cons_zero, List.getElem_cons_succ, Act.put, List.setIfInBounds_toArray, List.set_cons_zero, List.set_cons_succ]
          refine wpAnyH_take (i := 17) (v := ?_) rfl (by kernel_rfl) (by kernel_rfl) (by kernel_rfl) (fun _ _ _ h => h) (Or.inl ⟨by go_simp, ?_⟩) hS ?_
          rotate_left 1
          · intro w' hSw
            go_simp <;> with_reducible rfl
          try simp only [List.getElem_toArray, List.getElem_cons_zero, List.getElem_cons_succ, Act.put, List.setIfInBounds_toArray, List.set_cons_zero, List.set_cons_succ]
          refine wpAnyH_take (i := 18) (v := ?_) rfl (by kernel_rfl) (by kernel_rfl) (by kernel_rfl) (fun _ _ _ h => h) (Or.inl ⟨by go_simp, ?_⟩) hS ?_
          rotate_left 1
          · intro w' hSw
            go_simp <;> with_reducible rfl
          try simp only [List.getElem_toArray, List.getElem_cons_zero, List.getElem_cons_succ, Act.put, List.setIfInBounds_toArray, List.set_cons_zero, List.set_cons_succ]
          refine wpAnyH_take (i := 19) (v := ?_) rfl (by kernel_rfl) (by kernel_rfl) (by kernel_rfl) (fun _ _ _ h => h) (Or.inl ⟨by go_simp, ?_⟩) hS ?_
          rotate_left 1
          · intro w' hSw
            go_simp <;> with_reducible rfl
          try simp only [List.getElem_toArray, List.getElem_cons_zero, List.getElem_cons_succ, Act.put, List.setIfInBounds_toArray, List.set_cons_zero, List.set_cons_succ]
          refine wpAnyH_take (i := 20) (v := ?_) rfl (by kernel_rfl) (by kernel_rfl) (by kernel_rfl) (fun _ _ _ h => h) (Or.inl ⟨by go_simp, ?_⟩) hS ?_
          rotate_left 1
          · intro w' hSw
            go_simp <;> with_reducible rfl
          try simp only [List.getElem_toArray, List.getElem_cons_zero, List.getElem_cons_succ, Act.put, List.setIfInBounds_toArray, List.set_cons_zero, List.set_cons_succ]
          refine wpAnyH_take (i := 21) (v := ?_) rfl (by kernel_rfl) (by kernel_rfl) (by kernel_rfl) (fun _ _ _ h => h) (Or.inl ⟨by go_simp, ?_⟩) hS ?_
          rotate_left 1
          · intro w' hSw
            go_simp <;> with_reducible rfl
          try simp only [List.getElem_toArray, List.getElem_cons_zero, List.getElem_cons_succ, Act.put, List.setIfInBounds_toArray, List.set_cons_zero, List.set_cons_succ]
          refine wpAnyH_take (i := 22) (v := ?_) rfl (by kernel_rfl) (by kernel_rfl) (by kernel_rfl) (fun _ _ _ h => h) (Or.inl ⟨by go_simp, ?_⟩) hS ?_
          rotate_left 1
          · intro w' hSw
            go_simp <;> with_reducible rfl
          try simp only [List.getElem_toArray, List.getElem_cons_zero, List.getElem_cons_succ, Act.put, List.setIfInBounds_toArray, List.set_cons_zero, List.set_cons_succ]
          refine wpAnyH_take (i := 23) (v := ?_) rfl (by kernel_rfl) (by kernel_rfl) (by kernel_rfl) (fun _ _ _ h => h) (Or.inl ⟨by go_simp, ?_⟩) hS ?_
          rotate_left 1
          · intro w' hSw
            go_simp <;> with_reducible rfl
          try simp only [List.getElem_toArray, List.getElem_cons_zero, List.getElem_cons_succ, Act.put, List.setIfInBounds_toArray, List.set_cons_zero, List.set_cons_succ]
          refine wpAnyH_take (i := 24) (v := ?_) rfl (by kernel_rfl) (by kernel_rfl) (by kernel_rfl) (fun _ _ _ h => h) (Or.inl ⟨by go_simp, ?_⟩) hS ?_
          rotate_left 1
          · intro w' hSw
            go_simp <;> with_reducible rfl
          try simp only [List.getElem_toArray, List.getElem_cons_zero, List.getElem_cons_succ, Act.put, List.setIfInBounds_toArray, List.set_cons_zero, List.set_cons_succ]
          refine wpAnyH_take (i := 25) (v := ?_) rfl (by kernel_rfl) (by kernel_rfl) (by kernel_rfl) (fun _ _ _ h => h) (Or.inl ⟨by go_simp, ?_⟩) hS ?_
          rotate_left 1
          · intro w' hSw
            go_simp <;> with_reducible rfl
          try simp only [List.getElem_toArray, List.getElem_cons_zero, List.getElem_cons_succ, Act.put, List.setIfInBounds_toArray, List.set_cons_zero, List.set_cons_succ]
          refine wpAnyH_take (i := 26) (v := ?_) rfl (by kernel_rfl) (by kernel_rfl) (by kernel_rfl) (fun _ _ _ h => h) (Or.inl ⟨by go_simp, ?_⟩) hS ?_
          rotate_left 1
          · intro w' hSw
            go_simp <;> with_reducible rfl
          try simp only [List.getElem_toArray, List.getElem_cons_zero, List.getElem_cons_succ, Act.put, List.setIfInBounds_toArray, List.set_cons_zero, List.set_cons_succ]
          refine wpAnyH_take (i := 27) (v := ?_) rfl (by kernel_rfl) (by kernel_rfl) (by kernel_rfl) (fun _ _ _ h => h) (Or.inl ⟨by go_simp, ?_⟩) hS ?_
          rotate_left 1
          · intro w' hSw
            go_simp <;> with_reducible rfl
          try simp only [List.getElem_toArray, List.getElem_cons_zero, List.getElem_cons_succ, Act.put, List.setIfInBounds_toArray, List.set_cons_zero, List.set_cons_succ]
          refine wpAnyH_take (i := 28) (v := ?_) rfl (by kernel_rfl) (by kernel_rfl) (by kernel_rfl) (fun _ _ _ h => h) (Or.inl ⟨by go_simp, ?_⟩) hS ?_
          rotate_left 1
          · intro w' hSw
            go_simp <;> with_reducible rfl
          try simp only [List.getElem_toArray, List.getElem_cons_zero, List.getElem_cons_succ, Act.put, List.setIfInBounds_toArray, List.set_cons_zero, List.set_cons_succ]
          refine wpAnyH_take (i := 29) (v := ?_) rfl (by kernel_rfl) (by kernel_rfl) (by kernel_rfl) (fun _ _ _ h => h) (Or.inl ⟨by go_simp, ?_⟩) hS ?_
          rotate_left 1
          · intro w' hSw
            go_simp <;> with_reducible rfl
          try simp only [List.getElem_toArray, List.getElem_cons_zero, List.getElem_cons_succ, Act.put, List.setIfInBounds_toArray, List.set_cons_zero, List.set_cons_succ]
          refine wpAnyH_ready (rs := [30]) (by kernel_rfl) (by simp) (AllReadyH.cons rfl (fun K hK => ?_) AllReadyH.nil)
          go_simp
          with_reducible refine (HP.out _ (by first | omega | (simp only [ByteArray.size_append, sz_mk, List.size_toArray, List.length_cons, List.length_nil]; omega)) _ hS.2.low).mono ?_
          rintro _ wp ⟨rfl, bp⟩
          go_simp
          refine hK _ _ ⟨(hS.2.step bp).s3.at_ HY.out, hS.2.step bp⟩ (fun hS => ?_)
          clear hK K bp
          try simp only [List.getElem_toArray, List.getElem_cons_zero, List.getElem_cons_succ, Act.put, List.setIfInBounds_toArray, List.set_cons_zero, List.set_cons_succ]
          refine wpAnyH_take (i := 31) (v := ?_) rfl (by kernel_rfl) (by kernel_rfl) (by kernel_rfl) (fun _ _ _ h => h) (Or.inl ⟨by go_simp, ?_⟩) hS ?_
          rotate_left 1
          · intro w' hSw
            go_simp <;> with_reducible rfl
          try simp only [List.getElem_toArray, List.getElem_cons_zero, List.getElem_cons_succ, Act.put, List.setIfInBounds_toArray, List.set_cons_zero, List.set_cons_succ]
          refine wpAnyH_take (i := 32) (v := ?_) rfl (by kernel_rfl) (by kernel_rfl) (by kernel_rfl) (fun _ _ _ h => h) (Or.inl ⟨by rfl, ?_⟩) hS ?_
          rotate_left 1
          · intro w' hSw
            go_simp <;> with_reducible rfl
          try simp only [List.getElem_toArray, List.getElem_cons_zero, List.getElem_cons_succ, Act.put, List.setIfInBounds_toArray, List.set_cons_zero, List.set_cons_succ]
          refine wpAnyH_done (by kernel_rfl) ?_ _
          have KZ := Lib.hid hS.2
          clear hS cy KY
          go_wp2_with fail
          go_loopw [8] (fun i wy => ∃ n : Nat, n ≤ 22 ∧ i = .int .i64 n ∧ Hid (KW w g1 L1 g2 L2 g3 L3 wy)) (fun i _ => 22 - (intOf i).toNat)
          case atStart => exact ⟨0, Nat.zero_le _, rfl, KZ⟩
          case round =>
            clear KZ
            obtain ⟨n, hn, rfl, KN⟩ := hrel
            by_cases hnl : n < 22
            · have d3 : decide ((n : Int) < 22) = true := decide_eq_true (by omega)
              obtain ⟨z, hz⟩ : ∃ z, L2[n]? = some z := ⟨L2[n]'(by omega), List.getElem?_eq_getElem _⟩
              have hzs : z.size ≤ 40 := by simpa using HL2.out z (List.mem_of_getElem? hz)
              have cz := KN.out.s2.at_ hz
              have r1 : (0 : Int) ≤ (n : Int) := by omega
              have r2 : (n : Int) < 22 := by omega
              clear hz
              have y0 : ¬ 9223372036854775807 < ft.size + 1 := by omega
              have y1 : ¬ 9223372036854775807 < ft.size + 1 + z.size := by omega
              have y2 : ¬ 9223372036854775807 < ft.size + 1 + z.size + 1 := by omega
              have y3 : ¬ 9223372036854775807 < ft.size + 1 + z.size + 1 + rt.size := by omega
              have y4 : ¬ 9223372036854775807 < ft.size + 1 + z.size + 1 + rt.size + 3 := by omega
              go_wp2_with fail
              (with_reducible refine (HP.out _ (by first | omega | (simp only [ByteArray.size_append, sz_mk, List.size_toArray, List.length_cons, List.length_nil]; omega)) _ KN.out.low).mono ?_)
              rintro _ wq ⟨rfl, bp⟩
              have KQ := Lib.hid (KN.out.step bp)
              clear bp KN
              clear cz
              go_wp2_with fail
              go_roundw
              case rel => exact ⟨n + 1, by omega, by go_num, KQ⟩
              case measure => simp [intOf]; omega
            · have d3 : decide ((n : Int) < 22) = false := decide_eq_false (by omega)
              go_wp2_with fail
              go_roundw
              case rel => exact ⟨j + 1, by omega, by go_num, KN⟩
              case measure => simp [intOf]; omega
        · have d2 : decide ((j : Int) < (L3.length : Int)) = false := decide_eq_false (by omega)
          have c1 := KX.out.s1.at_ HX.out
          have hxs := okL_size HOK.out
          go_wp2_with fail
          (with_reducible refine (HP.out _ (by first | omega | (simp only [ByteArray.size_append, sz_mk, List.size_toArray, List.length_cons, List.length_nil]; omega)) _ KX.out.low).mono ?_)
          rintro _ wa ⟨rfl, bp⟩
          have KA := Lib.hid (KX.out.step bp)
          clear bp KX
          have c1 := KA.out.s1.at_ HX.out
          go_wp2_with fail
          (with_reducible refine (repl_B x HOK.out wa (HT.out wa KA.out.low)).mono ?_)
          rintro _ wb ⟨ta, rfl, hta, bp⟩
          have KB := Lib.hid (KA.out.step bp)
          clear bp KA
          have c1 := KB.out.s1.at_ HX.out
          go_wp2_with fail
          (with_reducible refine (HP.out _ (by first | omega | (simp only [ByteArray.size_append, sz_mk, List.size_toArray, List.length_cons, List.length_nil]; omega)) _ KB.out.low).mono ?_)
          rintro _ wd ⟨rfl, bp⟩
          have KD := Lib.hid (KB.out.step bp)
          clear bp KB
          have c1 := KD.out.s1.at_ HX.out
          go_wp2_with fail
          (with_reducible refine (upper_B x HOK.out wd).mono ?_)
          rintro _ we ⟨tb, rfl, htb, bp⟩
          have KE := Lib.hid (KD.out.step bp)
          clear bp KD
          go_wp2_with fail
          (with_reducible refine (HP.out _ (by first | omega | (simp only [ByteArray.size_append, sz_mk, List.size_toArray, List.length_cons, List.length_nil]; omega)) _ KE.out.low).mono ?_)
          rintro _ wf ⟨rfl, bp⟩
          have KF := Lib.hid (KE.out.step bp)
          clear bp KE
          have KG := Lib.hid (show KW w g1 L1 g2 L2 g2 L2 wf from ⟨KF.out.low, KF.out.s1, KF.out.s2, KF.out.s2⟩)
          clear KF
          go_wp2_with fail
          go_roundw
          case rel => exact ⟨k + 1, by omega, by go_num, KG⟩
          case measure => simp [intOf]; omega
    · have d1 : decide ((k : Int) < 15) = false := decide_eq_false (by omega)
      go_wp2_with fail
      go_loopw [9] (fun i wx => ∃ c : Nat, c ≤ 256 ∧ i = .int .i64 c ∧ Hid (KW w g1 L1 g2 L2 g2 L2 wx)) (fun i _ => 256 - (intOf i).toNat)
      case atStart => exact ⟨0, Nat.zero_le _, rfl, KR⟩
      case round =>
        clear KR
        obtain ⟨c, hc, rfl, KC⟩ := hrel
        by_cases hcl : c < 256
        · have d2 : decide ((c : Int) < 256) = true := decide_eq_true (by omega)
          have q5 : IntKind.u8.wrap (c : Int) = (c : Int) := IntWalk.u8_in _ (by omega)
          obtain ⟨b, hb1, hcv⟩ : ∃ b : ByteArray, b.size ≤ 1 ∧ (convert 49 9 (.slice (some ⟨wr.heap.size, 0, none⟩) 1 1)).run Tryz.prog (wr.alloc (.cells #[.int .u8 c] 5)) = .ok (.string b) (wr.alloc (.cells #[.int .u8 c] 5)) := by
            refine ⟨⟨[UInt8.ofNat c].toArray⟩, Nat.le_refl _, ?_⟩
            refine run_convert_bytes_back (P := Tryz.prog) (wr.alloc (.cells #[.int .u8 c] 5)) 49 9 5 ⟨wr.heap.size, 0, none⟩ 1 [UInt8.ofNat c] Tryz.underlying49 Tryz.underlying5 Tryz.underlying9 (fun q hq => ?_)
            have hq0 : q = 0 := by simp at hq; exact hq
            subst hq0
            have := news_new wr [.int .u8 (c : Int)] 5 0 (.int .u8 (c : Int)) rfl
            rw [this]
            simp
            omega
          have KA := Lib.hid (KC.out.step ((Below.refl wr.heap.size wr).alloc (Nat.le_refl _) (.cells #[.int .u8 c] 5)))
          clear KC
          go_upto_region 24 with fail
          generalize (wr.alloc (.cells #[.int .u8 c] 5)) = wa at *
          clear hcv
          have y0 : ¬ 9223372036854775807 < 4 + b.size := by omega
          have y1 : ¬ 9223372036854775807 < b.size + 4 := by omega
          have y2 : ¬ 9223372036854775807 < 7 + b.size := by omega
          have y3 : ¬ 9223372036854775807 < 7 + b.size + 2 := by omega
          have y4 : ¬ 9223372036854775807 < 7 + b.size + 2 + b.size := by omega
          go_wp2_with fail
          (with_reducible refine (HP.out _ (by first | omega | (simp only [ByteArray.size_append, sz_mk, List.size_toArray, List.length_cons, List.length_nil]; omega)) _ KA.out.low).mono ?_)
          rintro _ wb ⟨rfl, bp⟩
          have KB := Lib.hid (KA.out.step bp)
          clear bp KA
          go_wp2_with fail
          (with_reducible refine (HP.out _ (by first | omega | (simp only [ByteArray.size_append, sz_mk, List.size_toArray, List.length_cons, List.length_nil]; omega)) _ KB.out.low).mono ?_)
          rintro _ wd ⟨rfl, bp⟩
          have KD := Lib.hid (KB.out.step bp)
          clear bp KB
          go_wp2_with fail
          (with_reducible refine (HP.out _ (by first | omega | (simp only [ByteArray.size_append, sz_mk, List.size_toArray, List.length_cons, List.length_nil]; omega)) _ KD.out.low).mono ?_)
          rintro _ we ⟨rfl, bp⟩
          have KE := Lib.hid (KD.out.step bp)
          clear bp KD
          go_wp2_with fail
          (with_reducible refine (HP.out _ (by first | omega | (simp only [ByteArray.size_append, sz_mk, List.size_toArray, List.length_cons, List.length_nil]; omega)) _ KE.out.low).mono ?_)
          rintro _ wf ⟨rfl, bp⟩
          have KF := Lib.hid (KE.out.step bp)
          clear bp KE
          go_wp2_with fail
          go_roundw
          case rel => exact ⟨c + 1, by omega, by go_num, KF⟩
          case measure => simp [intOf]; omega
        · have d2 : decide ((c : Int) < 256) = false := decide_eq_false (by omega)
          go_wp2_with fail
          (with_reducible refine (HS4.out _ wr (HT.out wr KC.out.low)).mono ?_)
          rintro _ w5 ⟨rfl, s5, b5⟩
          have K5 := Lib.hid (show KW w g1 L1 g2 L2 wr.heap.size L4 w5 from ⟨(KC.out.step b5).low, (KC.out.step b5).s1, (KC.out.step b5).s2, s5⟩)
          clear s5 b5 KC
          obtain ⟨g4, hg4⟩ : ∃ g4, g4 = wr.heap.size := ⟨_, rfl⟩
          rw [← hg4] at K5 ⊢
          clear hg4
          go_wp2_with fail
          go_loopw [12] (fun i wx => ∃ n : Nat, n ≤ 12 ∧ i = .int .i64 n ∧ Hid (KW w g1 L1 g2 L2 g4 L4 wx)) (fun i _ => 12 - (intOf i).toNat)
          case atStart => exact ⟨0, Nat.zero_le _, rfl, K5⟩
          case round =>
            clear K5
            obtain ⟨n, hn, rfl, KN⟩ := hrel
            by_cases hnl : n < 12
            · have d3 : decide ((n : Int) < 12) = true := decide_eq_true (by omega)
              obtain ⟨z, hz⟩ : ∃ z, L4[n]? = some z := ⟨L4[n]'(by omega), List.getElem?_eq_getElem _⟩
              have HZ := Lib.hid hz
              have hzs : z.size ≤ 40 := by simpa using HL4.out z (List.mem_of_getElem? hz)
              have cz := KN.out.s3.at_ hz
              have r1 : (0 : Int) ≤ (n : Int) := by omega
              have r2 : (n : Int) < 12 := by omega
              clear hz
              have y0 : ¬ 9223372036854775807 < 8 + z.size := by omega
              have y1 : ¬ 9223372036854775807 < 8 + z.size + 10 := by omega
              have y2 : ¬ 9223372036854775807 < 8 + z.size + 10 + z.size := by omega
              have y3 : ¬ 9223372036854775807 < 9 + z.size := by omega
              have y4 : ¬ 9223372036854775807 < 6 + z.size := by omega
              have y5 : ¬ 9223372036854775807 < 16 + z.size := by omega
              have y6 : ¬ 9223372036854775807 < 16 + z.size + 1 := by omega
              go_upto_region 30 with fail
              refine wp_region_held_drew (S := fun W => W.cell? ⟨g4, n, none⟩ = some (.string z) ∧ KW w g1 L1 g2 L2 g4 L4 W) (by kernel_rfl) ⟨cz, KN.out.step ((Below.refl _ _).drew)⟩ (fun hS => ?_)
              clear KN cz
              refine wpAnyH_take (i := 0) (v := ?_) rfl (by kernel_rfl) (by kernel_rfl) (by kernel_rfl) (fun _ _ _ h => h) (Or.inl ⟨by rfl, ?_⟩) hS ?_
              rotate_left 1
              · intro w' hSw
                go_simp <;> with_reducible rfl
              try simp only [List.getElem_toArray, List.getElem_cons_zero, List.getElem_cons_succ, Act.put, List.setIfInBounds_toArray, List.set_cons_zero, List.set_cons_succ]
              refine wpAnyH_take (i := 1) (v := ?_) rfl (by kernel_rfl) (by kernel_rfl) (by kernel_rfl) (fun _ _ _ h => h) (Or.inl ⟨by rfl, ?_⟩) hS ?_
              rotate_left 1
              · intro w' hSw
                go_simp <;> with_reducible rfl
              try simp only [List.getElem_toArray, List.getElem_cons_zero, List.getElem_cons_succ, Act.put, List.setIfInBounds_toArray, List.set_cons_zero, List.set_cons_succ]
              refine wpAnyH_take (i := 2) (v := ?_) rfl (by kernel_rfl) (by kernel_rfl) (by kernel_rfl) (fun _ _ _ h => h) (Or.inl ⟨by rfl, ?_⟩) hS ?_
              rotate_left 1
              · intro w' hSw
                go_simp <;> with_reducible rfl
              try simp only [List.getElem_toArray, List.getElem_cons_zero, List.getElem_cons_succ, Act.put, List.setIfInBounds_toArray, List.set_cons_zero, List.set_cons_succ]
              refine wpAnyH_take (i := 3) (v := ?_) rfl (by kernel_rfl) (by kernel_rfl) (by kernel_rfl) (fun _ _ _ h => h) (Or.inl ⟨by rfl, ?_⟩) hS ?_
              rotate_left 1
              · intro w' hSw
                go_simp <;> with_reducible rfl
              try simp only [List.getElem_toArray, List.getElem_cons_zero, List.getElem_cons_succ, Act.put, List.setIfInBounds_toArray, List.set_cons_zero, List.set_cons_succ]
              refine wpAnyH_take (i := 4) (v := ?_) rfl (by kernel_rfl) (by kernel_rfl) (by kernel_rfl) (fun _ _ _ h => h) (Or.inl ⟨by rfl, ?_⟩) hS ?_
              rotate_left 1
              · intro w' hSw
                go_simp <;> with_reducible rfl
              try simp only [List.getElem_toArray, List.getElem_cons_zero, List.getElem_cons_succ, Act.put, List.setIfInBounds_toArray, List.set_cons_zero, List.set_cons_succ]
              refine wpAnyH_take (i := 5) (v := ?_) rfl (by kernel_rfl) (by kernel_rfl) (by kernel_rfl) (fun _ _ _ h => h) (Or.inl ⟨by rfl, ?_⟩) hS ?_
              rotate_left 1
              · intro w' hSw
                go_simp <;> with_reducible rfl
              try simp only [List.getElem_toArray, List.getElem_cons_zero, List.getElem_cons_succ, Act.put, List.setIfInBounds_toArray, List.set_cons_zero, List.set_cons_succ]
              refine wpAnyH_take (i := 6) (v := ?_) rfl (by kernel_rfl) (by kernel_rfl) (by kernel_rfl) (fun _ _ _ h => h) (Or.inl ⟨by rfl, ?_⟩) hS ?_
              rotate_left 1
              · intro w' hSw
                go_simp <;> with_reducible rfl
              try simp only [List.getElem_toArray, List.getElem_cons_zero, List.getElem_cons_succ, Act.put, List.setIfInBounds_toArray, List.set_cons_zero, List.set_cons_succ]
              refine wpAnyH_take (i := 7) (v := ?_) rfl (by kernel_rfl) (by kernel_rfl) (by kernel_rfl) (fun _ _ _ h => h) (Or.inl ⟨by rfl, ?_⟩) hS ?_
              rotate_left 1
              · intro w' hSw
                go_simp <;> with_reducible rfl
              try simp only [List.getElem_toArray, List.getElem_cons_zero, List.getElem_cons_succ, Act.put, List.setIfInBounds_toArray, List.set_cons_zero, List.set_cons_succ]
              refine wpAnyH_take (i := 8) (v := ?_) rfl (by kernel_rfl) (by kernel_rfl) (by kernel_rfl) (fun _ _ _ h => h) (Or.inl ⟨by rfl, ?_⟩) hS ?_
              rotate_left 1
              · intro w' hSw
                go_simp <;> with_reducible rfl
              try simp only [List.getElem_toArray, List.getElem_cons_zero, List.getElem_cons_succ, Act.put, List.setIfInBounds_toArray, List.set_cons_zero, List.set_cons_succ]
              refine wpAnyH_take (i := 9) (v := ?_) rfl (by kernel_rfl) (by kernel_rfl) (by kernel_rfl) (fun _ _ _ h => h) (Or.inl ⟨by rfl, ?_⟩) hS ?_
              rotate_left 1
              · intro w' hSw
                go_simp <;> with_reducible rfl
              try simp only [List.getElem_toArray, List.getElem_cons_zero, List.getElem_cons_succ, Act.put, List.setIfInBounds_toArray, List.set_cons_zero, List.set_cons_succ]
              refine wpAnyH_take (i := 10) (v := ?_) rfl (by kernel_rfl) (by kernel_rfl) (by kernel_rfl) (fun _ _ _ h => h) (Or.inl ⟨by rfl, ?_⟩) hS ?_
              rotate_left 1
              · intro w' hSw
                go_simp <;> with_reducible rfl
              try simp only [List.getElem_toArray, List.getElem_cons_zero, List.getElem_cons_succ, Act.put, List.setIfInBounds_toArray, List.set_cons_zero, List.set_cons_succ]
              refine wpAnyH_ready (rs := [11]) (by kernel_rfl) (by simp) (AllReadyH.cons rfl (fun K hK => ?_) AllReadyH.nil)
              go_simp
              with_reducible refine (HP.out _ (by first | omega | (simp only [ByteArray.size_append, sz_mk, List.size_toArray, List.length_cons, List.length_nil]; omega)) _ hS.2.low).mono ?_
              rintro _ wp ⟨rfl, bp⟩
              go_simp
              refine hK _ _ ⟨(hS.2.step bp).s3.at_ HZ.out, hS.2.step bp⟩ (fun hS => ?_)
              clear hK K bp
              try simp only [List.getElem_toArray, List.getElem_cons_zero, List.getElem_cons_succ, Act.put, List.setIfInBounds_toArray, List.set_cons_zero, List.set_cons_succ]
              refine wpAnyH_take (i := 12) (v := ?_) rfl (by kernel_rfl) (by kernel_rfl) (by kernel_rfl) (fun _ _ _ h => h) (Or.inl ⟨by rfl, ?_⟩) hS ?_
              rotate_left 1
              · intro w' hSw
                go_simp <;> with_reducible rfl
              try simp only [List.getElem_toArray, List.getElem_cons_zero, List.getElem_cons_succ, Act.put, List.setIfInBounds_toArray, List.set_cons_zero, List.set_cons_succ]
              refine wpAnyH_take (i := 13) (v := ?_) rfl (by kernel_rfl) (by kernel_rfl) (by kernel_rfl) (fun _ _ _ h => h) (Or.inl ⟨by rfl, ?_⟩) hS ?_
              rotate_left 1
              · intro w' hSw
                go_simp <;> with_reducible rfl
              try simp only [List.getElem_toArray, List.getElem_cons_zero, List.getElem_cons_succ, Act.put, List.setIfInBounds_toArray, List.set_cons_zero, List.set_cons_succ]
              refine wpAnyH_take (i := 14) (v := ?_) rfl (by kernel_rfl) (by kernel_rfl) (by kernel_rfl) (fun _ _ _ h => h) (Or.inl ⟨by go_simp, ?_⟩) hS ?_
              rotate_left 1
              · intro w' hSw
                go_simp <;> with_reducible rfl
              try simp only [List.getElem_toArray, List.getElem_cons_zero, List.getElem_cons_succ, Act.put, List.setIfInBounds_toArray, List.set_cons_zero, List.set_cons_succ]
              refine wpAnyH_take (i := 15) (v := ?_) rfl (by kernel_rfl) (by kernel_rfl) (by kernel_rfl) (fun _ _ _ h => h) (Or.inl ⟨by go_simp, ?_⟩) hS ?_
              rotate_left 1
              · intro w' hSw
                go_simp <;> with_reducible rfl
              try simp only [List.getElem_toArray, List.getElem_cons_zero, List.getElem_cons_succ, Act.put, List.setIfInBounds_toArray, List.set_cons_zero, List.set_cons_succ]
              refine wpAnyH_take (i := 16) (v := ?_) rfl (by kernel_rfl) (by kernel_rfl) (by kernel_rfl) (fun _ _ _ h => h) (Or.inl ⟨by go_simp, ?_⟩) hS ?_
              rotate_left 1
              · intro w' hSw
                go_simp <;> with_reducible rfl
              try simp only [List.getElem_toArray, List.getElem_cons_zero, List.getElem_cons_succ, Act.put, List.setIfInBounds_toArray, List.set_cons_zero, List.set_cons_succ]
              refine wpAnyH_take (i := 17) (v := ?_) rfl (by kernel_rfl) (by kernel_rfl) (by kernel_rfl) (fun _ _ _ h => h) (Or.inl ⟨by go_simp, ?_⟩) hS ?_
              rotate_left 1
              · intro w' hSw
                go_simp <;> with_reducible rfl
              try simp only [List.getElem_toArray, List.getElem_cons_zero, List.getElem_cons_succ, Act.put, List.setIfInBounds_toArray, List.set_cons_zero, List.set_cons_succ]
              refine wpAnyH_take (i := 18) (v := ?_) rfl (by kernel_rfl) (by kernel_rfl) (by kernel_rfl) (fun _ _ _ h => h) (Or.inl ⟨by go_simp, ?_⟩) hS ?_
              rotate_left 1
              · intro w' hSw
                go_simp <;> with_reducible rfl
              try simp only [List.getElem_toArray, List.getElem_cons_zero, List.getElem_cons_succ, Act.put, List.setIfInBounds_toArray, List.set_cons_zero, List.set_cons_succ]
              refine wpAnyH_ready (rs := [19]) (by kernel_rfl) (by simp) (AllReadyH.cons rfl (fun K hK => ?_) AllReadyH.nil)
              go_simp
              with_reducible refine (HP.out _ (by first | omega | (simp only [ByteArray.size_append, sz_mk, List.size_toArray, List.length_cons, List.length_nil]; omega)) _ hS.2.low).mono ?_
              rintro _ wp ⟨rfl, bp⟩
              go_simp
              refine hK _ _ ⟨(hS.2.step bp).s3.at_ HZ.out, hS.2.step bp⟩ (fun hS => ?_)
              clear hK K bp
              try simp only [List.getElem_toArray, List.getElem_cons_zero, List.getElem_cons_succ, Act.put, List.setIfInBounds_toArray, List.set_cons_zero, List.set_cons_succ]
              refine wpAnyH_take (i := 20) (v := ?_) rfl (by kernel_rfl) (by kernel_rfl) (by kernel_rfl) (fun _ _ _ h => h) (Or.inl ⟨by go_simp, ?_⟩) hS ?_
              rotate_left 1
              · intro w' hSw
                go_simp <;> with_reducible rfl
              try simp only [List.getElem_toArray, List.getElem_cons_zero, List.getElem_cons_succ, Act.put, List.setIfInBounds_toArray, List.set_cons_zero, List.set_cons_succ]
              refine wpAnyH_take (i := 21) (v := ?_) rfl (by kernel_rfl) (by kernel_rfl) (by kernel_rfl) (fun _ _ _ h => h) (Or.inl ⟨by rfl, ?_⟩) hS ?_
              rotate_left 1
              · intro w' hSw
                go_simp <;> with_reducible rfl
              try simp only [List.getElem_toArray, List.getElem_cons_zero, List.getElem_cons_succ, Act.put, List.setIfInBounds_toArray, List.set_cons_zero, List.set_cons_succ]
              refine wpAnyH_take (i := 22) (v := ?_) rfl (by kernel_rfl) (by kernel_rfl) (by kernel_rfl) (fun _ _ _ h => h) (Or.inl ⟨by rfl, ?_⟩) hS ?_
              rotate_left 1
              · intro w' hSw
                go_simp <;> with_reducible rfl
              try simp only [List.getElem_toArray, List.getElem_cons_zero, List.getElem_cons_succ, Act.put, List.setIfInBounds_toArray, List.set_cons_zero, List.set_cons_succ]
              refine wpAnyH_take (i := 23) (v := ?_) rfl (by kernel_rfl) (by kernel_rfl) (by kernel_rfl) (fun _ _ _ h => h) (Or.inl ⟨by go_simp, ?_⟩) hS ?_
              rotate_left 1
              · intro w' hSw
                go_simp <;> with_reducible rfl
              try simp only [List.getElem_toArray, List.getElem_cons_zero, List.getElem_cons_succ, Act.put, List.setIfInBounds_toArray, List.set_cons_zero, List.set_cons_succ]
              refine wpAnyH_take (i := 24) (v := ?_) rfl (by kernel_rfl) (by kernel_rfl) (by kernel_rfl) (fun _ _ _ h => h) (Or.inl ⟨by go_simp, ?_⟩) hS ?_
              rotate_left 1
              · intro w' hSw
                go_simp <;> with_reducible rfl
              try simp only [List.getElem_toArray, List.getElem_cons_zero, List.getElem_cons_succ, Act.put, List.setIfInBounds_toArray, List.set_cons_zero, List.set_cons_succ]
              refine wpAnyH_take (i := 25) (v := ?_) rfl (by kernel_rfl) (by kernel_rfl) (by kernel_rfl) (fun _ _ _ h => h) (Or.inl ⟨by go_simp, ?_⟩) hS ?_
              rotate_left 1
              · intro w' hSw
                go_simp <;> with_reducible rfl
              try simp only [List.getElem_toArray, List.getElem_cons_zero, List.getElem_cons_succ, Act.put, List.setIfInBounds_toArray, List.set_cons_zero, List.set_cons_succ]
              refine wpAnyH_take (i := 26) (v := ?_) rfl (by kernel_rfl) (by kernel_rfl) (by kernel_rfl) (fun _ _ _ h => h) (Or.inl ⟨by go_simp, ?_⟩) hS ?_
              rotate_left 1
              · intro w' hSw
                go_simp <;> with_reducible rfl
              try simp only [List.getElem_toArray, List.getElem_cons_zero, List.getElem_cons_succ, Act.put, List.setIfInBounds_toArray, List.set_cons_zero, List.set_cons_succ]
              refine wpAnyH_take (i := 27) (v := ?_) rfl (by kernel_rfl) (by kernel_rfl) (by kernel_rfl) (fun _ _ _ h => h) (Or.inl ⟨by go_simp, ?_⟩) hS ?_
              rotate_left 1
              · intro w' hSw
                go_simp <;> with_reducible rfl
              try simp only [List.getElem_toArray, List.getElem_cons_zero, List.getElem_cons_succ, Act.put, List.setIfInBounds_toArray, List.set_cons_zero, List.set_cons_succ]
              refine wpAnyH_ready (rs := [28]) (by kernel_rfl) (by simp) (AllReadyH.cons rfl (fun K hK => ?_) AllReadyH.nil)
              go_simp
              with_reducible refine (HP.out _ (by first | omega | (simp only [ByteArray.size_append, sz_mk, List.size_toArray, List.length_cons, List.length_nil]; omega)) _ hS.2.low).mono ?_
              rintro _ wp ⟨rfl, bp⟩
              go_simp
              refine hK _ _ ⟨(hS.2.step bp).s3.at_ HZ.out, hS.2.step bp⟩ (fun hS => ?_)
              clear hK K bp
              try simp only [List.getElem_toArray, List.getElem_cons_zero, List.getElem_cons_succ, Act.put, List.setIfInBounds_toArray, List.set_cons_zero, List.set_cons_succ]
              refine wpAnyH_take (i := 29) (v := ?_) rfl (by kernel_rfl) (by kernel_rfl) (by kernel_rfl) (fun _ _ _ h => h) (Or.inl ⟨by go_simp, ?_⟩) hS ?_
              rotate_left 1
              · intro w' hSw
                go_simp <;> with_reducible rfl
              try simp only [List.getElem_toArray, List.getElem_cons_zero, List.getElem_cons_succ, Act.put, List.setIfInBounds_toArray, List.set_cons_zero, List.set_cons_succ]
              refine wpAnyH_take (i := 30) (v := ?_) rfl (by kernel_rfl) (by kernel_rfl) (by kernel_rfl) (fun _ _ _ h => h) (Or.inl ⟨by rfl, ?_⟩) hS ?_
              rotate_left 1
              · intro w' hSw
                go_simp <;> with_reducible rfl
              try simp only [List.getElem_toArray, List.getElem_cons_zero, List.getElem_cons_succ, Act.put, List.setIfInBounds_toArray, List.set_cons_zero, List.set_cons_succ]
              refine wpAnyH_take (i := 31) (v := ?_) rfl (by kernel_rfl) (by kernel_rfl) (by kernel_rfl) (fun _ _ _ h => h) (Or.inl ⟨by rfl, ?_⟩) hS ?_
              rotate_left 1
              · intro w' hSw
                go_simp <;> with_reducible rfl
              try simp only [List.getElem_toArray, List.getElem_cons_zero, List.getElem_cons_succ, Act.put, List.setIfInBounds_toArray, List.set_cons_zero, List.set_cons_succ]
              refine wpAnyH_take (i := 32) (v := ?_) rfl (by kernel_rfl) (by kernel_rfl) (by kernel_rfl) (fun _ _ _ h => h) (Or.inl ⟨by go_simp, ?_⟩) hS ?_
              rotate_left 1
              · intro w' hSw
                go_simp <;> with_reducible rfl
              try simp only [List.getElem_toArray, List.getElem_cons_zero, List.getElem_cons_succ, Act.put, List.setIfInBounds_toArray, List.set_cons_zero, List.set_cons_succ]
              refine wpAnyH_take (i := 33) (v := ?_) rfl (by kernel_rfl) (by kernel_rfl) (by kernel_rfl) (fun _ _ _ h => h) (Or.inl ⟨by go_simp, ?_⟩) hS ?_
              rotate_left 1
              · intro w' hSw
                go_simp <;> with_reducible rfl
              try simp only [List.getElem_toArray, List.getElem_cons_zero, List.getElem_cons_succ, Act.put, List.setIfInBounds_toArray, List.set_cons_zero, List.set_cons_succ]
              refine wpAnyH_take (i := 34) (v := ?_) rfl (by kernel_rfl) (by kernel_rfl) (by kernel_rfl) (fun _ _ _ h => h) (Or.inl ⟨by go_simp, ?_⟩) hS ?_
              rotate_left 1
              · intro w' hSw
                go_simp <;> with_reducible rfl
              try simp only [List.getElem_toArray, List.getElem_cons_zero, List.getElem_cons_succ, Act.put, List.setIfInBounds_toArray, List.set_cons_zero, List.set_cons_succ]
              refine wpAnyH_take (i := 35) (v := ?_) rfl (by kernel_rfl) (by kernel_rfl) (by kernel_rfl) (fun _ _ _ h => h) (Or.inl ⟨by go_simp, ?_⟩) hS ?_
              rotate_left 1
              · intro w' hSw
                go_simp <;> with_reducible rfl
              try simp only [List.getElem_toArray, List.getElem_cons_zero, List.getElem_cons_succ, Act.put, List.setIfInBounds_toArray, List.set_cons_zero, List.set_cons_succ]
              refine wpAnyH_take (i := 36) (v := ?_) rfl (by kernel_rfl) (by kernel_rfl) (by kernel_rfl) (fun _ _ _ h => h) (Or.inl ⟨by go_simp, ?_⟩) hS ?_
              rotate_left 1
              · intro w' hSw
                go_simp <;> with_reducible rfl
              try simp only [List.getElem_toArray, List.getElem_cons_zero, List.getElem_cons_succ, Act.put, List.setIfInBounds_toArray, List.set_cons_zero, List.set_cons_succ]
              refine wpAnyH_ready (rs := [37]) (by kernel_rfl) (by simp) (AllReadyH.cons rfl (fun K hK => ?_) AllReadyH.nil)
              go_simp
              with_reducible refine (HP.out _ (by first | omega | (simp only [ByteArray.size_append, sz_mk, List.size_toArray, List.length_cons, List.length_nil]; omega)) _ hS.2.low).mono ?_
              rintro _ wp ⟨rfl, bp⟩
              go_simp
              refine hK _ _ ⟨(hS.2.step bp).s3.at_ HZ.out, hS.2.step bp⟩ (fun hS => ?_)
              clear hK K bp
              try simp only [List.getElem_toArray, List.getElem_cons_zero, List.getElem_cons_succ, Act.put, List.setIfInBounds_toArray, List.set_cons_zero, List.set_cons_succ]
              refine wpAnyH_take (i := 38) (v := ?_) rfl (by kernel_rfl) (by kernel_rfl) (by kernel_rfl) (fun _ _ _ h => h) (Or.inl ⟨by go_simp, ?_⟩) hS ?_
              rotate_left 1
              · intro w' hSw
                go_simp <;> with_reducible rfl
              try simp only [List.getElem_toArray, List.getElem_cons_zero, List.getElem_cons_succ, Act.put, List.setIfInBounds_toArray, List.set_cons_zero, List.set_cons_succ]
              refine wpAnyH_take (i := 39) (v := ?_) rfl (by kernel_rfl) (by kernel_rfl) (by kernel_rfl) (fun _ _ _ h => h) (Or.inl ⟨by rfl, ?_⟩) hS ?_
              rotate_left 1
              · intro w' hSw
                go_simp <;> with_reducible rfl
              try simp only [List.getElem_toArray, List.getElem_cons_zero, List.getElem_cons_succ, Act.put, List.setIfInBounds_toArray, List.set_cons_zero, List.set_cons_succ]
              refine wpAnyH_take (i := 40) (v := ?_) rfl (by kernel_rfl) (by kernel_rfl) (by kernel_rfl) (fun _ _ _ h => h) (Or.inl ⟨by rfl, ?_⟩) hS ?_
              rotate_left 1
              · intro w' hSw
                go_simp <;> with_reducible rfl
              try simp only [List.getElem_toArray, List.getElem_cons_zero, List.getElem_cons_succ, Act.put, List.setIfInBounds_toArray, List.set_cons_zero, List.set_cons_succ]
              refine wpAnyH_take (i := 41) (v := ?_) rfl (by kernel_rfl) (by kernel_rfl) (by kernel_rfl) (fun _ _ _ h => h) (Or.inl ⟨by go_simp, ?_⟩) hS ?_
              rotate_left 1
              · intro w' hSw
                go_simp <;> with_reducible rfl
              try simp only [List.getElem_toArray, List.getElem_cons_zero, List.getElem_cons_succ, Act.put, List.setIfInBounds_toArray, List.set_cons_zero, List.set_cons_succ]
              refine wpAnyH_take (i := 42) (v := ?_) rfl (by kernel_rfl) (by kernel_rfl) (by kernel_rfl) (fun _ _ _ h => h) (Or.inl ⟨by go_simp, ?_⟩) hS ?_
              rotate_left 1
              · intro w' hSw
                go_simp <;> with_reducible rfl
              try simp only [List.getElem_toArray, List.getElem_cons_zero, List.getElem_cons_succ, Act.put, List.setIfInBounds_toArray, List.set_cons_zero, List.set_cons_succ]
              refine wpAnyH_take (i := 43) (v := ?_) rfl (by kernel_rfl) (by kernel_rfl) (by kernel_rfl) (fun _ _ _ h => h) (Or.inl ⟨by go_simp, ?_⟩) hS ?_
              rotate_left 1
              · intro w' hSw
                go_simp <;> with_reducible rfl
              try simp only [List.getElem_toArray, List.getElem_cons_zero, List.getElem_cons_succ, Act.put, List.setIfInBounds_toArray, List.set_cons_zero, List.set_cons_succ]
              refine wpAnyH_take (i := 44) (v := ?_) rfl (by kernel_rfl) (by kernel_rfl) (by kernel_rfl) (fun _ _ _ h => h) (Or.inl ⟨by go_simp, ?_⟩) hS ?_
              rotate_left 1
              · intro w' hSw
                go_simp <;> with_reducible rfl
              try simp only [List.getElem_toArray, List.getElem_cons_zero, List.getElem_cons_succ, Act.put, List.setIfInBounds_toArray, List.set_cons_zero, List.set_cons_succ]
              refine wpAnyH_take (i := 45) (v := ?_) rfl (by kernel_rfl) (by kernel_rfl) (by kernel_rfl) (fun _ _ _ h => h) (Or.inl ⟨by go_simp, ?_⟩) hS ?_
              rotate_left 1
              · intro w' hSw
                go_simp <;> with_reducible rfl
              try simp only [List.getElem_toArray, List.getElem_cons_zero, List.getElem_cons_succ, Act.put, List.setIfInBounds_toArray, List.set_cons_zero, List.set_cons_succ]
              refine wpAnyH_take (i := 46) (v := ?_) rfl (by kernel_rfl) (by kernel_rfl) (by kernel_rfl) (fun _ _ _ h => h) (Or.inl ⟨by go_simp, ?_⟩) hS ?_
              rotate_left 1
              · intro w' hSw
                go_simp <;> with_reducible rfl
              try simp only [List.getElem_toArray, List.getElem_cons_zero, List.getElem_cons_succ, Act.put, List.setIfInBounds_toArray, List.set_cons_zero, List.set_cons_succ]
              refine wpAnyH_ready (rs := [47]) (by kernel_rfl) (by simp) (AllReadyH.cons rfl (fun K hK => ?_) AllReadyH.nil)
              go_simp
              with_reducible refine (HP.out _ (by first | omega | (simp only [ByteArray.size_append, sz_mk, List.size_toArray, List.length_cons, List.length_nil]; omega)) _ hS.2.low).mono ?_
              rintro _ wp ⟨rfl, bp⟩
              go_simp
              refine hK _ _ ⟨(hS.2.step bp).s3.at_ HZ.out, hS.2.step bp⟩ (fun hS => ?_)
              clear hK K bp
              try simp only [List.getElem_toArray, List.getElem_cons_zero, List.getElem_cons_succ, Act.put, List.setIfInBounds_toArray, List.set_cons_zero, List.set_cons_succ]
              refine wpAnyH_take (i := 48) (v := ?_) rfl (by kernel_rfl) (by kernel_rfl) (by kernel_rfl) (fun _ _ _ h => h) (Or.inl ⟨by go_simp, ?_⟩) hS ?_
              rotate_left 1
              · intro w' hSw
                go_simp <;> with_reducible rfl
              try simp only [List.getElem_toArray, List.getElem_cons_zero, List.getElem_cons_succ, Act.put, List.setIfInBounds_toArray, List.set_cons_zero, List.set_cons_succ]
              refine wpAnyH_take (i := 49) (v := ?_) rfl (by kernel_rfl) (by kernel_rfl) (by kernel_rfl) (fun _ _ _ h => h) (Or.inl ⟨by rfl, ?_⟩) hS ?_
              rotate_left 1
              · intro w' hSw
                go_simp <;> with_reducible rfl
              try simp only [List.getElem_toArray, List.getElem_cons_zero, List.getElem_cons_succ, Act.put, List.setIfInBounds_toArray, List.set_cons_zero, List.set_cons_succ]
              refine wpAnyH_take (i := 50) (v := ?_) rfl (by kernel_rfl) (by kernel_rfl) (by kernel_rfl) (fun _ _ _ h => h) (Or.inl ⟨by rfl, ?_⟩) hS ?_
              rotate_left 1
              · intro w' hSw
                go_simp <;> with_reducible rfl
              try simp only [List.getElem_toArray, List.getElem_cons_zero, List.getElem_cons_succ, Act.put, List.setIfInBounds_toArray, List.set_cons_zero, List.set_cons_succ]
              refine wpAnyH_take (i := 51) (v := ?_) rfl (by kernel_rfl) (by kernel_rfl) (by kernel_rfl) (fun _ _ _ h => h) (Or.inl ⟨by go_simp, ?_⟩) hS ?_
              rotate_left 1
              · intro w' hSw
                go_simp <;> with_reducible rfl
              try simp only [List.getElem_toArray, List.getElem_cons_zero, List.getElem_cons_succ, Act.put, List.setIfInBounds_toArray, List.set_cons_zero, List.set_cons_succ]
              refine wpAnyH_take (i := 52) (v := ?_) rfl (by kernel_rfl) (by kernel_rfl) (by kernel_rfl) (fun _ _ _ h => h) (Or.inl ⟨by go_simp, ?_⟩) hS ?_
              rotate_left 1
              · intro w' hSw
                go_simp <;> with_reducible rfl
              try simp only [List.getElem_toArray, List.getElem_cons_zero, List.getElem_cons_succ, Act.put, List.setIfInBounds_toArray, List.set_cons_zero, List.set_cons_succ]
              refine wpAnyH_take (i := 53) (v := ?_) rfl (by kernel_rfl) (by kernel_rfl) (by kernel_rfl) (fun _ _ _ h => h) (Or.inl ⟨by go_simp, ?_⟩) hS ?_
              rotate_left 1
              · intro w' hSw
                go_simp <;> with_reducible rfl
              try simp only [List.getElem_toArray, List.getElem_cons_zero, List.getElem_cons_succ, Act.put, List.setIfInBounds_toArray, List.set_cons_zero, List.set_cons_succ]
              refine wpAnyH_take (i := 54) (v := ?_) rfl (by kernel_rfl) (by kernel_rfl) (by kernel_rfl) (fun _ _ _ h => h) (Or.inl ⟨by go_simp, ?_⟩) hS ?_
              rotate_left 1
              · intro w' hSw
                go_simp <;> with_reducible rfl
              try simp only [List.getElem_toArray, List.getElem_cons_zero, List.getElem_cons_succ, Act.put, List.setIfInBounds_toArray, List.set_cons_zero, List.set_cons_succ]
              refine wpAnyH_take (i := 55) (v := ?_) rfl (by kernel_rfl) (by kernel_rfl) (by kernel_rfl) (fun _ _ _ h => h) (Or.inl ⟨by go_simp, ?_⟩) hS ?_
              rotate_left 1
              · intro w' hSw
                go_simp <;> with_reducible rfl
              try simp only [List.getElem_toArray, List.getElem_cons_zero, List.getElem_cons_succ, Act.put, List.setIfInBounds_toArray, List.set_cons_zero, List.set_cons_succ]
              refine wpAnyH_take (i := 56) (v := ?_) rfl (by kernel_rfl) (by kernel_rfl) (by kernel_rfl) (fun _ _ _ h => h) (Or.inl ⟨by go_simp, ?_⟩) hS ?_
              rotate_left 1
              · intro w' hSw
                go_simp <;> with_reducible rfl
              try simp only [List.getElem_toArray, List.getElem_cons_zero, List.getElem_cons_succ, Act.put, List.setIfInBounds_toArray, List.set_cons_zero, List.set_cons_succ]
              refine wpAnyH_ready (rs := [57]) (by kernel_rfl) (by simp) (AllReadyH.cons rfl (fun K hK => ?_) AllReadyH.nil)
              go_simp
              with_reducible refine (HP.out _ (by first | omega | (simp only [ByteArray.size_append, sz_mk, List.size_toArray, List.length_cons, List.length_nil]; omega)) _ hS.2.low).mono ?_
              rintro _ wp ⟨rfl, bp⟩
              go_simp
              refine hK _ _ ⟨(hS.2.step bp).s3.at_ HZ.out, hS.2.step bp⟩ (fun hS => ?_)
              clear hK K bp
              try simp only [List.getElem_toArray, List.getElem_cons_zero, List.getElem_cons_succ, Act.put, List.setIfInBounds_toArray, List.set_cons_zero, List.set_cons_succ]
              refine wpAnyH_take (i := 58) (v := ?_) rfl (by kernel_rfl) (by kernel_rfl) (by kernel_rfl) (fun _ _ _ h => h) (Or.inl ⟨by go_simp, ?_⟩) hS ?_
              rotate_left 1
              · intro w' hSw
                go_simp <;> with_reducible rfl
              try simp only [List.getElem_toArray, List.getElem_cons_zero, List.getElem_cons_succ, Act.put, List.setIfInBounds_toArray, List.set_cons_zero, List.set_cons_succ]
              refine wpAnyH_take (i := 59) (v := ?_) rfl (by kernel_rfl) (by kernel_rfl) (by kernel_rfl) (fun _ _ _ h => h) (Or.inl ⟨by rfl, ?_⟩) hS ?_
              rotate_left 1
              · intro w' hSw
                go_simp <;> with_reducible rfl
              try simp only [List.getElem_toArray, List.getElem_cons_zero, List.getElem_cons_succ, Act.put, List.setIfInBounds_toArray, List.set_cons_zero, List.set_cons_succ]
              refine wpAnyH_done (by kernel_rfl) ?_ _
              have KQ := Lib.hid hS.2
              clear hS
              go_wp2_with fail
              go_roundw
              case rel => exact ⟨n + 1, by omega, by go_num, KQ⟩
              case measure => simp [intOf]; omega
            · have d3 : decide ((n : Int) < 12) = false := decide_eq_false (by omega)
              go_wp2_with fail
              go_loopw [13] (fun i wx => ∃ n : Nat, 29 ≤ n ∧ n ≤ 32 ∧ i = .int .i64 n ∧ Hid (KW w g1 L1 g2 L2 g4 L4 wx)) (fun i _ => 32 - (intOf i).toNat)
              case atStart => exact ⟨29, by omega, by omega, rfl, KN⟩
              case round =>
                clear KN
                obtain ⟨n, hn1, hn2, rfl, KN⟩ := hrel
                by_cases hnl : n < 32
                · have d3 : decide ((n : Int) < 32) = true := decide_eq_true (by omega)
                  have hrp := fun (W : World) => repeat_B ⟨#[97]⟩ n (by show 1 * n ≤ _; omega) (by omega) W
                  go_wp2_with fail
                  (with_reducible refine (hrp _).mono ?_)
                  rintro _ wa ⟨a, rfl, ha, bp⟩
                  have KA := Lib.hid (KN.out.step bp)
                  clear bp KN hrp
                  have y0 : ¬ 9223372036854775807 < 5 + a.size := by omega
                  have y1 : ¬ 9223372036854775807 < 5 + a.size + 1 := by omega
                  have y2 : ¬ 9223372036854775807 < 5 + a.size + 1 + a.size := by omega
                  have y3 : ¬ 9223372036854775807 < 5 + a.size + 1 + a.size + 1 := by omega
                  have y4 : ¬ 9223372036854775807 < a.size + 2 := by omega
                  have y5 : ¬ 9223372036854775807 < a.size + 2 + a.size := by omega
                  have y6 : ¬ 9223372036854775807 < a.size + 2 + a.size + 1 := by omega
                  go_wp2_with fail
                  (with_reducible refine (HP.out _ (by first | omega | (simp only [ByteArray.size_append, sz_mk, List.size_toArray, List.length_cons, List.length_nil]; omega)) _ KA.out.low).mono ?_)
                  rintro _ wb ⟨rfl, bp⟩
                  have KB := Lib.hid (KA.out.step bp)
                  clear bp KA
                  go_wp2_with fail
                  (with_reducible refine (HP.out _ (by first | omega | (simp only [ByteArray.size_append, sz_mk, List.size_toArray, List.length_cons, List.length_nil]; omega)) _ KB.out.low).mono ?_)
                  rintro _ wd ⟨rfl, bp⟩
                  have KD := Lib.hid (KB.out.step bp)
                  clear bp KB
                  go_wp2_with fail
                  go_roundw
                  case rel => exact ⟨n + 1, by omega, by omega, by go_num, KD⟩
                  case measure => simp [intOf]; omega
                · have d3 : decide ((n : Int) < 32) = false := decide_eq_false (by omega)
                  have hrp := fun (W : World) => repeat_B ⟨#[101, 120, 105, 116, 10]⟩ 4096 (by decide) (by decide) W
                  have hrs := fun (W : World) => repeat_B ⟨#[32]⟩ 262144 (by decide) (by decide) W
                  have HRP := Lib.hid hrp
                  have HRS := Lib.hid hrs
                  clear hrp hrs
                  go_wp2_with fail
                  refine (HRP.out _).mono ?_
                  rintro _ wa ⟨a, rfl, ha, bp⟩
                  have KA := Lib.hid (KN.out.step bp)
                  clear bp KN HRP
                  have y0 : ¬ 9223372036854775807 < a.size + 4 := by omega
                  have y1 : ¬ 9223372036854775807 < a.size + 5 := by omega
                  have y2 : ¬ 9223372036854775807 < 7 + a.size := by omega
                  go_wp2_with fail
                  (with_reducible refine (HP.out _ (by first | omega | (simp only [ByteArray.size_append, sz_mk, List.size_toArray, List.length_cons, List.length_nil]; omega)) _ KA.out.low).mono ?_)
                  rintro _ wb ⟨rfl, bp⟩
                  have KB := Lib.hid (KA.out.step bp)
                  clear bp KA
                  go_wp2_with fail
                  (with_reducible refine (HP.out _ (by first | omega | (simp only [ByteArray.size_append, sz_mk, List.size_toArray, List.length_cons, List.length_nil]; omega)) _ KB.out.low).mono ?_)
                  rintro _ wd ⟨rfl, bp⟩
                  have KD := Lib.hid (KB.out.step bp)
                  clear bp KB
                  go_wp2_with fail
                  (with_reducible refine (HP.out _ (by first | omega | (simp only [ByteArray.size_append, sz_mk, List.size_toArray, List.length_cons, List.length_nil]; omega)) _ KD.out.low).mono ?_)
                  rintro _ we ⟨rfl, bp⟩
                  have KE := Lib.hid (KD.out.step bp)
                  clear bp KD
                  go_wp2_with fail
                  (with_reducible refine (HP.out _ (by first | omega | (simp only [ByteArray.size_append, sz_mk, List.size_toArray, List.length_cons, List.length_nil]; omega)) _ KE.out.low).mono ?_)
                  rintro _ wf ⟨rfl, bp⟩
                  have KF := Lib.hid (KE.out.step bp)
                  clear bp KE
                  go_wp2_with fail
                  refine (HRS.out _).mono ?_
                  rintro _ wg ⟨b, rfl, hb, bp⟩
                  have KG := Lib.hid (KF.out.step bp)
                  clear bp KF
                  go_wp2_with fail
                  (with_reducible refine (HP.out _ (by first | omega | (simp only [ByteArray.size_append, sz_mk, List.size_toArray, List.length_cons, List.length_nil]; omega)) _ KG.out.low).mono ?_)
                  rintro _ wh ⟨rfl, bp⟩
                  have KH := Lib.hid (KG.out.step bp)
                  clear bp KG
                  go_wp2_with fail
                  refine (HRS.out _).mono ?_
                  rintro _ wi ⟨d, rfl, hd, bp⟩
                  have KI := Lib.hid (KH.out.step bp)
                  clear bp KH
                  have x1 : ¬ 9223372036854775807 < d.size + 1 := by omega
                  go_wp2_with fail
                  (with_reducible refine (HP.out _ (by first | omega | (simp only [ByteArray.size_append, sz_mk, List.size_toArray, List.length_cons, List.length_nil]; omega)) _ KI.out.low).mono ?_)
                  rintro _ wj ⟨rfl, bp⟩
                  have KJ := Lib.hid (KI.out.step bp)
                  clear bp KI
                  go_wp2_with fail
                  (with_reducible refine (HP.out _ (by first | omega | (simp only [ByteArray.size_append, sz_mk, List.size_toArray, List.length_cons, List.length_nil]; omega)) _ KJ.out.low).mono ?_)
                  rintro _ wk ⟨rfl, bp⟩
                  have KL := Lib.hid (KJ.out.step bp)
                  clear bp KJ
                  go_wp2_with fail
                  (with_reducible refine (awake_any wk (HT.out wk KL.out.low) KL.out.low.size).mono ?_)
                  rintro _ wl ⟨rfl, bp⟩
                  have KM := Lib.hid (KL.out.step bp)
                  clear bp KL
                  go_wp2_with fail
                  go_ret
                  exact ⟨rfl, KM.out.low⟩
end Go.Proofs.YtjebjninlejoeaaGreatDoor

