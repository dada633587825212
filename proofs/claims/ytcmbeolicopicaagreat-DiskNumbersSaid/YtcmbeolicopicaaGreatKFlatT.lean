/- flatTexts: over this seat's program. -/
import Derived.Test.YtcmbeolicopicaaGreatKT0
namespace Go.Proofs.YtcmbeolicopicaaGreat
open Go.RowKit
set_option linter.unusedVariables false
set_option linter.unusedSimpArgs false
set_option maxRecDepth 100000

set_option maxHeartbeats 8000000 in
theorem flatTexts_any (S : Nat → Prop) (ls : List Fs) (C : Nat → List Value) (A : Option Addr) (c : Nat) (w : World) (h : Fl w 9 1 S ls C) (ho : Outer w S A c ls) (hS : ∀ b, S b → b < w.heap.size) (hn : ls.length ≤ 1000000) (hl : ∀ x ∈ ls, x.n ≤ 1000000) :
    Calls Tryz.prog 79 #[.slice A ls.length c] w fun e w' => e = .returned (.bool true) ∧ Ag (fun b => ¬ S b) w w' := by
  obtain ⟨i0, hi, hz0, hz1, hz2⟩ := info_parts txt_info
  obtain ⟨j0, hj, hj0, hj1, hj2⟩ := info_parts slT_info
  have hS0 := hS
  go_enter Tryz.func79, Tryz.ntmps79
  go_wp2_with fail
  go_loopw [3] (fun i wr => ∃ k : Nat, k ≤ ls.length ∧ i = .int .i64 k ∧ Ph1 mkT 9 1 S ls w k 0 wr) (fun i _ => ls.length - (intOf i).toNat)
  case atStart => exact ⟨0, Nat.zero_le _, rfl, Ph1.start h⟩
  case round =>
    clear h
    obtain ⟨k, hk, rfl, hP⟩ := hrel
    by_cases hlt : k < ls.length
    · have d1 : decide ((k : Int) < (ls.length : Int)) = true := decide_eq_true (by omega)
      obtain ⟨a, x, A', c', rfl, hx, co, n1, n2, n3, hv⟩ := hP.list ho hlt
      have hxl : x.n ≤ 1000000 := hl x (List.mem_of_getElem? hx.out)
      have hcl : ls.length ≤ c := ho.le
      have N3 := Lib.hid n3
      clear n3 co
      go_wp2_with fail
      obtain ⟨wo, rfl⟩ : ∃ wo : World, wo = wr := ⟨_, rfl⟩
      go_loopw [4] (fun i wr => ∃ j : Nat, j ≤ x.n ∧ i = .int .i64 j ∧ Ph1 mkT 9 1 S ls w k j wr) (fun i _ => x.n - (intOf i).toNat)
      case atStart => exact ⟨0, Nat.zero_le _, rfl, hP⟩
      case round =>
        clear hP
        obtain ⟨j, hj, rfl, hP⟩ := hrel
        have co : wr.cell? (a.add k) = some (.slice A' x.n c') := by
          obtain ⟨a', x', e1, e2, e3⟩ := ho.at_ hP.ag hlt
          injection e1 with e1
          have : x' = x := by have := e2.out.symm.trans hx.out; injection this
          subst this
          rw [e1, e3, hv.out]
        have hm : 0 ≤ (k : Int) := by omega
        by_cases hjl : j < x.n
        · have d2 : decide ((j : Int) < (x.n : Int)) = true := decide_eq_true (by omega)
          obtain rfl := N3.out (by omega)
          obtain ⟨s, hs⟩ : ∃ s : ByteArray, Hid (s = ⟨(mtx k j).toArray⟩) := ⟨_, Lib.hid rfl⟩
          have i1 : (0 : Int) ≤ (j : Int) := by omega
          have i2 : (j : Int) < (x.n : Int) := by omega
          have k1 : (0 : Int) ≤ (k : Int) := by omega
          have k2 : (k : Int) < (ls.length : Int) := by omega
          have hob : a.block ≠ x.b := by
            obtain ⟨a', e1, ⟨h1, h2⟩, _⟩ := ho.rd.2 (by intro e; have := congrArg List.length e; simp at this; rw [this] at hlt; simp at hlt)
            injection e1 with e1
            subst e1
            obtain ⟨C', h1', _⟩ := hP
            exact fun e => h1 (by rw [e]; exact (h1'.own k x hx.out (h1'.xb hx.out (by omega))).1)
          have keepS : ∀ w', Below wr.heap.size wr w' → w'.cell? (a.add k) = some (.slice (some ⟨x.b, 0, none⟩) x.n c') := fun w' hb' => (hb'.cell (World.block_lt_of_cell? wr _ co)).trans co
          go_wp2_with fail
          refine wp_region_held_drew (S := fun w' => w'.cell? (a.add k) = some (.slice (some ⟨x.b, 0, none⟩) x.n c')) (by kernel_rfl) (keepS _ ((Below.refl _ _).drew)) (fun hS => ?_)
          refine wpAnyH_take (i := 0) (v := ?_) rfl (by kernel_rfl) (by kernel_rfl) (by kernel_rfl) (fun _ _ _ h => h) (Or.inl ⟨by rfl, ?_⟩) hS ?_
          rotate_left 1
          · intro w' hSw
            go_simp <;> with_reducible rfl
          try simp only [List.getElem_toArray, List.getElem_cons_zero, List.getElem_cons_succ, Act.put, List.setIfInBounds_toArray, List.set_cons_zero, List.set_cons_succ]
          refine wpAnyH_take (i := 1) (v := ?_) rfl (by kernel_rfl) (by kernel_rfl) (by kernel_rfl) (fun _ _ _ h => h) (Or.inl ⟨by rfl, ?_⟩) hS ?_
          rotate_left 1
          · intro w' hSw
            go_simp <;> with_reducible rfl
          try simp only [List.getElem_toArray, List.getElem_cons_zero, List.getElem_cons_succ, Act.put, List.setIfInBounds_toArray, List.set_cons_zero, List.set_cons_succ]
          refine wpAnyH_take (i := 2) (v := ?_) rfl (by kernel_rfl) (by kernel_rfl) (by kernel_rfl) (fun _ _ _ h => h) (Or.inl ⟨by rfl, ?_⟩) hS ?_
          rotate_left 1
          · intro w' hSw
            go_simp <;> with_reducible rfl
          try simp only [List.getElem_toArray, List.getElem_cons_zero, List.getElem_cons_succ, Act.put, List.setIfInBounds_toArray, List.set_cons_zero, List.set_cons_succ]
          refine wpAnyH_take (i := 3) (v := ?_) rfl (by kernel_rfl) (by kernel_rfl) (by kernel_rfl) (fun _ _ _ h => h) (Or.inl ⟨by rfl, ?_⟩) hS ?_
          rotate_left 1
          · intro w' hSw
            go_simp <;> with_reducible rfl
          try simp only [List.getElem_toArray, List.getElem_cons_zero, List.getElem_cons_succ, Act.put, List.setIfInBounds_toArray, List.set_cons_zero, List.set_cons_succ]
          refine wpAnyH_take (i := 4) (v := ?_) rfl (by kernel_rfl) (by kernel_rfl) (by kernel_rfl) (fun _ _ _ h => h) (Or.inl ⟨by rfl, ?_⟩) hS ?_
          rotate_left 1
          · intro w' hSw
            go_simp <;> with_reducible rfl
          try simp only [List.getElem_toArray, List.getElem_cons_zero, List.getElem_cons_succ, Act.put, List.setIfInBounds_toArray, List.set_cons_zero, List.set_cons_succ]
          refine wpAnyH_take (i := 5) (v := ?_) rfl (by kernel_rfl) (by kernel_rfl) (by kernel_rfl) (fun _ _ _ h => h) (Or.inl ⟨by rfl, ?_⟩) hS ?_
          rotate_left 1
          · intro w' hSw
            go_simp <;> with_reducible rfl
          try simp only [List.getElem_toArray, List.getElem_cons_zero, List.getElem_cons_succ, Act.put, List.setIfInBounds_toArray, List.set_cons_zero, List.set_cons_succ]
          refine wpAnyH_take (i := 6) (v := ?_) rfl (by kernel_rfl) (by kernel_rfl) (by kernel_rfl) (fun _ _ _ h => h) (Or.inl ⟨by rfl, ?_⟩) hS ?_
          rotate_left 1
          · intro w' hSw
            go_simp <;> with_reducible rfl
          try simp only [List.getElem_toArray, List.getElem_cons_zero, List.getElem_cons_succ, Act.put, List.setIfInBounds_toArray, List.set_cons_zero, List.set_cons_succ]
          refine wpAnyH_ready (rs := [7]) (by kernel_rfl) (by simp) (AllReadyH.cons rfl (fun K hK => ?_) AllReadyH.nil)
          go_simp
          refine (mt_call k j s _ (by omega) (by omega) (by omega) (by omega) hs).mono ?_
          rintro _ w2 ⟨rfl, hb2⟩
          have hbx : Below wr.heap.size wr w2 := ((Below.refl wr.heap.size wr).drew).trans hb2
          go_simp
          refine hK _ _ (keepS _ hbx) (fun hS => ?_)
          clear hK K
          have HP := Lib.hid ((hP.below hbx).step mkT_len hS0 hx.out hjl)
          obtain ⟨⟨u0, c0⟩, f0⟩ := (hP.below hbx).cells hx.out (i := j) (by omega)
          clear hP hb2 co keepS
          try simp only [List.getElem_toArray, List.getElem_cons_zero, List.getElem_cons_succ, Act.put, List.setIfInBounds_toArray, List.set_cons_zero, List.set_cons_succ]
          refine wpAnyH_take (i := 8) (v := ?_) rfl (by kernel_rfl) (by kernel_rfl) (by kernel_rfl) (fun _ _ _ h => h) (Or.inl ⟨by rfl, ?_⟩) hS ?_
          rotate_left 1
          · intro w' hSw
            go_simp <;> with_reducible rfl
          try simp only [List.getElem_toArray, List.getElem_cons_zero, List.getElem_cons_succ, Act.put, List.setIfInBounds_toArray, List.set_cons_zero, List.set_cons_succ]
          refine wpAnyH_ready (rs := [9]) (by kernel_rfl) (by simp) (AllReadyH.cons rfl (fun K hK => ?_) AllReadyH.nil)
          go_simp
          refine hK _ _ ?hs (fun hS => ?_)
          rotate_left 1
          clear hK K
          try simp only [List.getElem_toArray, List.getElem_cons_zero, List.getElem_cons_succ, Act.put, List.setIfInBounds_toArray, List.set_cons_zero, List.set_cons_succ]
          refine wpAnyH_done (by kernel_rfl) ?_ _
          go_wp2_with fail
          go_roundw
          case rel => exact ⟨j + 1, by omega, by go_num, by have h9 := HP.out; simp only [sets, mkT, ← hs.out, Nat.mul_one] at h9; exact h9⟩
          case measure => simp [intOf]; omega
          exact (World.cell?_of_block (by rw [add_blk]; rw [Below.heap_setCell _ _ _ _ hob])).trans hS
        · have d2 : decide ((j : Int) < (x.n : Int)) = false := decide_eq_false (by omega)
          obtain rfl : j = x.n := by omega
          have HP := Lib.hid (hP.next hx.out)
          clear hP
          go_wp2_with fail
          go_roundw
          case rel => exact ⟨k + 1, by omega, by go_num, HP.out⟩
          case measure => simp [intOf]; omega
    · have d1 : decide ((k : Int) < (ls.length : Int)) = false := decide_eq_false (by omega)
      obtain rfl : k = ls.length := by omega
      obtain ⟨hF, hag⟩ := hP.done
      clear hP
      obtain ⟨wg, rfl⟩ : ∃ wg : World, wg = wr := ⟨_, rfl⟩
      go_wp2_with (at_make; refine wpList_make_full _ rfl _ _ 77 rfl wg.heap.size 56 j0 (.slice none 0 0) 1 Tryz.underlying77 hj hj0 hj1 _ _ _ _ ls.length rfl rfl (by omega) (by omega) (by rw [hj2]; omega) (by unfold maxLen; omega) (Nat.le_refl _) ?_; intro w1 hown1 hgrow1)
      have hb1 : Below wg.heap.size wg w1 := (Below.refl _ _).grown hgrow1 (Nat.le_refl _) (by simp)
      have hP := Ph2.start (X := fun k x => mks mkT k (x.n + 64)) (hF.below hb1) (hag.trans (Ag.of_below _ hb1)) (by have := hown1.1; simpa using this) (own_all hown1 (Nat.le_refl _))
      have hGw : w.heap.size ≤ wg.heap.size := hag.size
      clear hF hag hown1 hgrow1 hb1
      go_loopw [6] (fun i wr => ∃ k : Nat, k ≤ ls.length ∧ i = .int .i64 k ∧ Ph2 mkT 9 1 S ls 56 (fun k x => mks mkT k (x.n + 64)) w wg.heap.size k wr) (fun i _ => ls.length - (intOf i).toNat)
      case atStart => exact ⟨0, Nat.zero_le _, rfl, hP⟩
      case round =>
        clear hP hk
        obtain ⟨k, hk, rfl, hP⟩ := hrel
        by_cases hlt : k < ls.length
        · have d1 : decide ((k : Int) < (ls.length : Int)) = true := decide_eq_true (by omega)
          obtain ⟨a, x, A', c', rfl, hx, co, n1, n2, n3, hv⟩ := hP.list ho hlt
          have hxl : x.n ≤ 1000000 := hl x (List.mem_of_getElem? hx.out)
          have hcl : ls.length ≤ c := ho.le
          have hI := Inn.start hP.1 hx.out
          rw [mksOf_at hx.out, hv.out] at hI
          have hFo := hP.1
          clear n3
          go_wp2_with fail
          obtain ⟨wo, rfl⟩ : ∃ wo : World, wo = wr := ⟨_, rfl⟩
          go_loopw [7, 8] (fun g i wr => ∃ (j gb : Nat), j ≤ 64 ∧ i = .int .i64 j ∧ Inn wo wr 9 1 x g gb j (mks mkT k (x.n + j)) ∧ Fl wr 9 1 S ls (mksOf mkT ls)) (fun _ i _ => 64 - (intOf i).toNat)
          case atStart => exact ⟨0, x.b, Nat.zero_le _, rfl, hI, hFo⟩
          case round =>
            clear hI co
            obtain ⟨j, gb, hj, rfl, hI, hF⟩ := hrel
            by_cases hjl : j < 64
            · have d2 : decide ((j : Int) < 64) = true := decide_eq_true (by omega)
              have co : wr.cell? (a.add k) = some (.slice A' x.n c') := by
                obtain ⟨a', x', e1, e2, e3⟩ := ho.at_ (hP.2.1.trans (hI.ag.mono (fun b _ hb ⟨q1, q2⟩ => hb (by rw [q1]; exact (hFo.own k x hx.out q2).1)))) hlt
                injection e1 with e1
                have : x' = x := by have := e2.out.symm.trans hx.out; injection this
                subst this
                rw [e1, e3, hv.out]
              obtain ⟨s, hs⟩ : ∃ s : ByteArray, Hid (s = ⟨(mtx k ((x.n : Int) + (j : Int))).toArray⟩) := ⟨_, Lib.hid rfl⟩
              have HE : Hid (mkT k (x.n + j) = [.string s]) := Lib.hid (by rw [hs.out]; simp [mkT])
              go_wp2_with fail
              refine (mt_call k ((x.n : Int) + j) s _ (by omega) (by omega) (by omega) (by omega) hs).mono ?_
              rintro _ w2 ⟨rfl, hb2⟩
              have hrow2 : ∀ o, Row (w2.alloc o) 9 1 u7 gb (x.n + j) (mks mkT k (x.n + j)) := fun o => hI.row.keep (fun e => (heap_alloc_old w2 o (Nat.lt_of_lt_of_le (hI.lt hF hx.out e) hb2.size)).trans (hb2.block _ (hI.lt hF hx.out e)))
              clear co
              go_wp2_with (at_builtin; refine wpList_append_grew _ rfl (.tmp 57) (.tmp 67) 56 rfl 9 i0 _ 1 16 Tryz.underlying56 hi hz0 hz1 hz2 rfl u7 gb (x.n + j) (mks mkT k (x.n + j)) rfl (hrow2 _) ⟨w2.heap.size, 0, none⟩ 1 1 [.string s] rfl rfl ?c1 ?c2 (by unfold maxLen; omega) (by omega) (by decide) ?_)
              case c1 => exact news_new w2 [.string s] 9
              case c2 => intro u hu; simp at hu; subst hu; rfl
              intro v' w3 g' hrow3 hg3
              rw [← HE.out, ← mks_succ] at hrow3
              obtain ⟨hI3, hF3⟩ := Inn.step hFo hF hx.out hI (hb2.alloc hb2.size _) hrow3 hg3
              clear hb2 hrow2
              clear hI hF hrow3 hg3
              go_wp2_with fail
              go_roundw
              case rel => exact ⟨j + 1, _, by omega, by go_num, hI3, hF3⟩
              case measure => simp [intOf]; omega
            · have d2 : decide ((j : Int) < 64) = false := decide_eq_false (by omega)
              obtain rfl : j = 64 := by omega
              obtain ⟨⟨gu, cg⟩, fg⟩ := hP.gcell hGw hS hx.out hI
              have HP := Lib.hid (hP.step hGw hS hx.out hI hF rfl rfl)
              obtain ⟨A2, c2, rfl, _, _, hA2⟩ := hI.row.shape
              obtain rfl := hA2 (by omega)
              clear hP hI hF hFo
              go_wp2_with fail
              go_roundw
              case rel => exact ⟨k + 1, by omega, by go_num, HP.out⟩
              case measure => simp [intOf]; omega
        · have d1 : decide ((k : Int) < (ls.length : Int)) = false := decide_eq_false (by omega)
          obtain rfl : k = ls.length := by omega
          go_wp2_with fail
          obtain ⟨wp, rfl⟩ : ∃ wp : World, wp = wr := ⟨_, rfl⟩
          go_loopw [9] (fun i wr => ∃ k : Nat, k ≤ ls.length ∧ i = .int .i64 k ∧ Ph2 mkT 9 1 S ls 56 (fun k x => mks mkT k (x.n + 64)) w wg.heap.size ls.length wr) (fun i _ => ls.length - (intOf i).toNat)
          case atStart => exact ⟨0, Nat.zero_le _, rfl, hP⟩
          case round =>
            clear hP hk
            obtain ⟨k, hk, rfl, hP⟩ := hrel
            by_cases hlt : k < ls.length
            · have d1 : decide ((k : Int) < (ls.length : Int)) = true := decide_eq_true (by omega)
              obtain ⟨a, x, A', c', rfl, hx, co, n1, n2, n3, hv⟩ := hP.list ho hlt
              have hxl : x.n ≤ 1000000 := hl x (List.mem_of_getElem? hx.out)
              have hcl : ls.length ≤ c := ho.le
              have N3 := Lib.hid n3
              clear n3 co
              go_wp2_with fail
              obtain ⟨wo, rfl⟩ : ∃ wo : World, wo = wr := ⟨_, rfl⟩
              go_loopw [10] (fun i wr => ∃ j : Nat, j ≤ x.n + 64 ∧ i = .int .i64 j ∧ Ph2 mkT 9 1 S ls 56 (fun k x => mks mkT k (x.n + 64)) w wg.heap.size ls.length wr) (fun i _ => x.n + 64 - (intOf i).toNat)
              case atStart => exact ⟨0, Nat.zero_le _, rfl, hP⟩
              case round =>
                clear hP
                obtain ⟨j, hj, rfl, hP⟩ := hrel
                obtain ⟨gb, cap, cg, g1, g2, g3, g4⟩ := hP.at_ hlt hx.out
                have co : wr.cell? (a.add k) = some (.slice A' x.n c') := by
                  obtain ⟨a', x', e1, e2, e3⟩ := ho.at_ hP.2.1 hlt
                  injection e1 with e1
                  have : x' = x := by have := e2.out.symm.trans hx.out; injection this
                  subst this
                  rw [e1, e3, hv.out]
                have G3 := Lib.hid g3
                have G4 := Lib.hid g4
                clear g3 g4
                by_cases hjl : j < x.n + 64
                · have d2 : decide ((j : Int) < (x.n : Int) + 64) = true := decide_eq_true (by omega)
                  have i1 : (0 : Int) ≤ (j : Int) := by omega
                  have i2 : (j : Int) < (x.n : Int) + 64 := by omega
                  have k1 : (0 : Int) ≤ (k : Int) := by omega
                  have k2 : (k : Int) < (ls.length : Int) := by omega
                  obtain ⟨s, hs⟩ : ∃ s : ByteArray, Hid (s = ⟨(mtx k j).toArray⟩) := ⟨_, Lib.hid rfl⟩
                  have c3 : wr.cell? ⟨gb, j, none⟩ = some (.string s) := by
                    have := mks_get mkT_len k (x.n + 64) j 0 hjl (by omega)
                    rw [G3.out j (by omega), hs.out]
                    simpa [mkT] using this
                  by_cases hjx : j < x.n
                  · have d3 : decide (j < x.n) = true := decide_eq_true (by omega)
                    have i3 : (j : Int) < (x.n : Int) := by omega
                    obtain rfl := N3.out (by omega)
                    have c4 : wr.cell? ⟨x.b, j, none⟩ = some (.string s) := by
                      have := mks_get mkT_len k x.n j 0 hjx (by omega)
                      rw [G4.out j (by omega), hs.out]
                      simpa [mkT] using this
                    have keepS : ∀ w', Below wr.heap.size wr w' → ((w'.cell? (a.add k) = some (.slice (some ⟨x.b, 0, none⟩) x.n c') ∧ w'.cell? ⟨wg.heap.size, k, none⟩ = some (.slice (some ⟨gb, 0, none⟩) (x.n + 64) cap) ∧ w'.cell? ⟨gb, j, none⟩ = some (.string s) ∧ w'.cell? ⟨x.b, j, none⟩ = some (.string s)) ∧ Below wr.heap.size wr w') := by
                      intro w' hb'
                      have hkk : ∀ (p : Addr) u, wr.cell? p = some u → w'.cell? p = some u := fun p u hu => (hb'.cell (World.block_lt_of_cell? wr _ hu)).trans hu
                      exact ⟨⟨hkk _ _ co, hkk _ _ cg, hkk _ _ c3, hkk _ _ c4⟩, hb'⟩
                    have hmark : ∀ w', Below wr.heap.size wr w' → Calls Tryz.prog 103 #[.int .i64 k, .int .i64 j] w' fun x w2 => x = .returned (.string s) ∧ Below wr.heap.size wr w2 := fun w' h => (mt_call k j s w' (by omega) (by omega) (by omega) (by omega) hs).mono fun x w2 ⟨h1, h2⟩ => ⟨h1, h.trans (h2.mono h.size)⟩
                    go_wp2_with fail
                    refine wp_region_held_drew (S := fun w' => ((w'.cell? (a.add k) = some (.slice (some ⟨x.b, 0, none⟩) x.n c') ∧ w'.cell? ⟨wg.heap.size, k, none⟩ = some (.slice (some ⟨gb, 0, none⟩) (x.n + 64) cap) ∧ w'.cell? ⟨gb, j, none⟩ = some (.string s) ∧ w'.cell? ⟨x.b, j, none⟩ = some (.string s)) ∧ Below wr.heap.size wr w')) (by kernel_rfl) (keepS _ ((Below.refl _ _).drew)) (fun hS => ?_)
                    refine wpAnyH_take (i := 0) (v := ?_) rfl (by kernel_rfl) (by kernel_rfl) (by kernel_rfl) (fun _ _ _ h => h) (Or.inl ⟨by rfl, ?_⟩) hS ?_
                    rotate_left 1
                    · intro w' hSw
                      go_simp <;> with_reducible rfl
                    try simp only [List.getElem_toArray, List.getElem_cons_zero, List.getElem_cons_succ, Act.put, List.setIfInBounds_toArray, List.set_cons_zero, List.set_cons_succ]
                    refine wpAnyH_take (i := 1) (v := ?_) rfl (by kernel_rfl) (by kernel_rfl) (by kernel_rfl) (fun _ _ _ h => h) (Or.inl ⟨by rfl, ?_⟩) hS ?_
                    rotate_left 1
                    · intro w' hSw
                      go_simp <;> with_reducible rfl
                    try simp only [List.getElem_toArray, List.getElem_cons_zero, List.getElem_cons_succ, Act.put, List.setIfInBounds_toArray, List.set_cons_zero, List.set_cons_succ]
                    refine wpAnyH_take (i := 2) (v := ?_) rfl (by kernel_rfl) (by kernel_rfl) (by kernel_rfl) (fun _ _ _ h => h) (Or.inl ⟨by rfl, ?_⟩) hS ?_
                    rotate_left 1
                    · intro w' hSw
                      go_simp <;> with_reducible rfl
                    try simp only [List.getElem_toArray, List.getElem_cons_zero, List.getElem_cons_succ, Act.put, List.setIfInBounds_toArray, List.set_cons_zero, List.set_cons_succ]
                    refine wpAnyH_take (i := 3) (v := ?_) rfl (by kernel_rfl) (by kernel_rfl) (by kernel_rfl) (fun _ _ _ h => h) (Or.inl ⟨by rfl, ?_⟩) hS ?_
                    rotate_left 1
                    · intro w' hSw
                      go_simp <;> with_reducible rfl
                    try simp only [List.getElem_toArray, List.getElem_cons_zero, List.getElem_cons_succ, Act.put, List.setIfInBounds_toArray, List.set_cons_zero, List.set_cons_succ]
                    refine wpAnyH_take (i := 4) (v := ?_) rfl (by kernel_rfl) (by kernel_rfl) (by kernel_rfl) (fun _ _ _ h => h) (Or.inl ⟨by rfl, ?_⟩) hS ?_
                    rotate_left 1
                    · intro w' hSw
                      go_simp <;> with_reducible rfl
                    try simp only [List.getElem_toArray, List.getElem_cons_zero, List.getElem_cons_succ, Act.put, List.setIfInBounds_toArray, List.set_cons_zero, List.set_cons_succ]
                    refine wpAnyH_take (i := 5) (v := ?_) rfl (by kernel_rfl) (by kernel_rfl) (by kernel_rfl) (fun _ _ _ h => h) (Or.inl ⟨by rfl, ?_⟩) hS ?_
                    rotate_left 1
                    · intro w' hSw
                      go_simp <;> with_reducible rfl
                    try simp only [List.getElem_toArray, List.getElem_cons_zero, List.getElem_cons_succ, Act.put, List.setIfInBounds_toArray, List.set_cons_zero, List.set_cons_succ]
                    refine wpAnyH_take (i := 6) (v := ?_) rfl (by kernel_rfl) (by kernel_rfl) (by kernel_rfl) (fun _ _ _ h => h) (Or.inl ⟨by rfl, ?_⟩) hS ?_
                    rotate_left 1
                    · intro w' hSw
                      go_simp <;> with_reducible rfl
                    try simp only [List.getElem_toArray, List.getElem_cons_zero, List.getElem_cons_succ, Act.put, List.setIfInBounds_toArray, List.set_cons_zero, List.set_cons_succ]
                    refine wpAnyH_take (i := 7) (v := ?_) rfl (by kernel_rfl) (by kernel_rfl) (by kernel_rfl) (fun _ _ _ h => h) (Or.inl ⟨by rfl, ?_⟩) hS ?_
                    rotate_left 1
                    · intro w' hSw
                      go_simp <;> with_reducible rfl
                    try simp only [List.getElem_toArray, List.getElem_cons_zero, List.getElem_cons_succ, Act.put, List.setIfInBounds_toArray, List.set_cons_zero, List.set_cons_succ]
                    refine wpAnyH_take (i := 8) (v := ?_) rfl (by kernel_rfl) (by kernel_rfl) (by kernel_rfl) (fun _ _ _ h => h) (Or.inl ⟨by rfl, ?_⟩) hS ?_
                    rotate_left 1
                    · intro w' hSw
                      go_simp <;> with_reducible rfl
                    try simp only [List.getElem_toArray, List.getElem_cons_zero, List.getElem_cons_succ, Act.put, List.setIfInBounds_toArray, List.set_cons_zero, List.set_cons_succ]
                    refine wpAnyH_ready (rs := [9]) (by kernel_rfl) (by simp) (AllReadyH.cons rfl (fun K hK => ?_) AllReadyH.nil)
                    go_simp
                    refine (hmark _ hS.2).mono ?_
                    rintro _ w2 ⟨rfl, hbx⟩
                    go_simp
                    refine hK _ _ (keepS _ hbx) (fun hS => ?_)
                    clear hK K
                    try simp only [List.getElem_toArray, List.getElem_cons_zero, List.getElem_cons_succ, Act.put, List.setIfInBounds_toArray, List.set_cons_zero, List.set_cons_succ]
                    refine wpAnyH_take (i := 10) (v := ?_) rfl (by kernel_rfl) (by kernel_rfl) (by kernel_rfl) (fun _ _ _ h => h) (Or.inl ⟨by rfl, ?_⟩) hS ?_
                    rotate_left 1
                    · intro w' hSw
                      go_simp <;> with_reducible rfl
                    try simp only [List.getElem_toArray, List.getElem_cons_zero, List.getElem_cons_succ, Act.put, List.setIfInBounds_toArray, List.set_cons_zero, List.set_cons_succ]
                    refine wpAnyH_take (i := 11) (v := ?_) rfl (by kernel_rfl) (by kernel_rfl) (by kernel_rfl) (fun _ _ _ h => h) (Or.inl ⟨by rfl, ?_⟩) hS ?_
                    rotate_left 1
                    · intro w' hSw
                      go_simp <;> with_reducible rfl
                    try simp only [List.getElem_toArray, List.getElem_cons_zero, List.getElem_cons_succ, Act.put, List.setIfInBounds_toArray, List.set_cons_zero, List.set_cons_succ]
                    refine wpAnyH_take (i := 12) (v := ?_) rfl (by kernel_rfl) (by kernel_rfl) (by kernel_rfl) (fun _ _ _ h => h) (Or.inl ⟨by rfl, ?_⟩) hS ?_
                    rotate_left 1
                    · intro w' hSw
                      go_simp <;> with_reducible rfl
                    try simp only [List.getElem_toArray, List.getElem_cons_zero, List.getElem_cons_succ, Act.put, List.setIfInBounds_toArray, List.set_cons_zero, List.set_cons_succ]
                    refine wpAnyH_take (i := 13) (v := ?_) rfl (by kernel_rfl) (by kernel_rfl) (by kernel_rfl) (fun _ _ _ h => h) (Or.inl ⟨by go_simp, ?_⟩) hS ?_
                    rotate_left 1
                    · intro w' hSw
                      go_simp <;> with_reducible rfl
                    try simp only [List.getElem_toArray, List.getElem_cons_zero, List.getElem_cons_succ, Act.put, List.setIfInBounds_toArray, List.set_cons_zero, List.set_cons_succ]
                    refine wpAnyH_take (i := 14) (v := ?_) rfl (by kernel_rfl) (by kernel_rfl) (by kernel_rfl) (fun _ _ _ h => h) (Or.inl ⟨by go_simp, ?_⟩) hS ?_
                    rotate_left 1
                    · intro w' hSw
                      go_simp <;> with_reducible rfl
                    try simp only [List.getElem_toArray, List.getElem_cons_zero, List.getElem_cons_succ, Act.put, List.setIfInBounds_toArray, List.set_cons_zero, List.set_cons_succ]
                    refine wpAnyH_take (i := 15) (v := ?_) rfl (by kernel_rfl) (by kernel_rfl) (by kernel_rfl) (fun _ _ _ h => h) (Or.inl ⟨by go_simp, ?_⟩) hS ?_
                    rotate_left 1
                    · intro w' hSw
                      go_simp <;> with_reducible rfl
                    try simp only [List.getElem_toArray, List.getElem_cons_zero, List.getElem_cons_succ, Act.put, List.setIfInBounds_toArray, List.set_cons_zero, List.set_cons_succ]
                    refine wpAnyH_take (i := 16) (v := ?_) rfl (by kernel_rfl) (by kernel_rfl) (by kernel_rfl) (fun _ _ _ h => h) (Or.inl ⟨by go_simp, ?_⟩) hS ?_
                    rotate_left 1
                    · intro w' hSw
                      go_simp <;> with_reducible rfl
                    try simp only [List.getElem_toArray, List.getElem_cons_zero, List.getElem_cons_succ, Act.put, List.setIfInBounds_toArray, List.set_cons_zero, List.set_cons_succ]
                    refine wpAnyH_take (i := 17) (v := ?_) rfl (by kernel_rfl) (by kernel_rfl) (by kernel_rfl) (fun _ _ _ h => h) (Or.inl ⟨by go_simp, ?_⟩) hS ?_
                    rotate_left 1
                    · intro w' hSw
                      go_simp <;> with_reducible rfl
                    try simp only [List.getElem_toArray, List.getElem_cons_zero, List.getElem_cons_succ, Act.put, List.setIfInBounds_toArray, List.set_cons_zero, List.set_cons_succ]
                    refine wpAnyH_take (i := 18) (v := ?_) rfl (by kernel_rfl) (by kernel_rfl) (by kernel_rfl) (fun _ _ _ h => h) (Or.inl ⟨by go_simp, ?_⟩) hS ?_
                    rotate_left 1
                    · intro w' hSw
                      go_simp <;> with_reducible rfl
                    try simp only [List.getElem_toArray, List.getElem_cons_zero, List.getElem_cons_succ, Act.put, List.setIfInBounds_toArray, List.set_cons_zero, List.set_cons_succ]
                    refine wpAnyH_take (i := 19) (v := ?_) rfl (by kernel_rfl) (by kernel_rfl) (by kernel_rfl) (fun _ _ _ h => h) (Or.inl ⟨by go_simp, ?_⟩) hS ?_
                    rotate_left 1
                    · intro w' hSw
                      go_simp <;> with_reducible rfl
                    try simp only [List.getElem_toArray, List.getElem_cons_zero, List.getElem_cons_succ, Act.put, List.setIfInBounds_toArray, List.set_cons_zero, List.set_cons_succ]
                    refine wpAnyH_take (i := 20) (v := ?_) rfl (by kernel_rfl) (by kernel_rfl) (by kernel_rfl) (fun _ _ _ h => h) (Or.inl ⟨by go_simp, ?_⟩) hS ?_
                    rotate_left 1
                    · intro w' hSw
                      go_simp <;> with_reducible rfl
                    try simp only [List.getElem_toArray, List.getElem_cons_zero, List.getElem_cons_succ, Act.put, List.setIfInBounds_toArray, List.set_cons_zero, List.set_cons_succ]
                    refine wpAnyH_take (i := 21) (v := ?_) rfl (by kernel_rfl) (by kernel_rfl) (by kernel_rfl) (fun _ _ _ h => h) (Or.inl ⟨by go_simp, ?_⟩) hS ?_
                    rotate_left 1
                    · intro w' hSw
                      go_simp <;> with_reducible rfl
                    try simp only [List.getElem_toArray, List.getElem_cons_zero, List.getElem_cons_succ, Act.put, List.setIfInBounds_toArray, List.set_cons_zero, List.set_cons_succ]
                    refine wpAnyH_take (i := 22) (v := ?_) rfl (by kernel_rfl) (by kernel_rfl) (by kernel_rfl) (fun _ _ _ h => h) (Or.inl ⟨by go_simp, ?_⟩) hS ?_
                    rotate_left 1
                    · intro w' hSw
                      go_simp <;> with_reducible rfl
                    try simp only [List.getElem_toArray, List.getElem_cons_zero, List.getElem_cons_succ, Act.put, List.setIfInBounds_toArray, List.set_cons_zero, List.set_cons_succ]
                    refine wpAnyH_take (i := 23) (v := ?_) rfl (by kernel_rfl) (by kernel_rfl) (by kernel_rfl) (fun _ _ _ h => h) (Or.inl ⟨by go_simp, ?_⟩) hS ?_
                    rotate_left 1
                    · intro w' hSw
                      go_simp <;> with_reducible rfl
                    try simp only [List.getElem_toArray, List.getElem_cons_zero, List.getElem_cons_succ, Act.put, List.setIfInBounds_toArray, List.set_cons_zero, List.set_cons_succ]
                    refine wpAnyH_take (i := 24) (v := ?_) rfl (by kernel_rfl) (by kernel_rfl) (by kernel_rfl) (fun _ _ _ h => h) (Or.inl ⟨by go_simp, ?_⟩) hS ?_
                    rotate_left 1
                    · intro w' hSw
                      go_simp <;> with_reducible rfl
                    try simp only [List.getElem_toArray, List.getElem_cons_zero, List.getElem_cons_succ, Act.put, List.setIfInBounds_toArray, List.set_cons_zero, List.set_cons_succ]
                    refine wpAnyH_take (i := 25) (v := ?_) rfl (by kernel_rfl) (by kernel_rfl) (by kernel_rfl) (fun _ _ _ h => h) (Or.inl ⟨by go_simp, ?_⟩) hS ?_
                    rotate_left 1
                    · intro w' hSw
                      go_simp <;> with_reducible rfl
                    try simp only [List.getElem_toArray, List.getElem_cons_zero, List.getElem_cons_succ, Act.put, List.setIfInBounds_toArray, List.set_cons_zero, List.set_cons_succ]
                    refine wpAnyH_take (i := 26) (v := ?_) rfl (by kernel_rfl) (by kernel_rfl) (by kernel_rfl) (fun _ _ _ h => h) (Or.inl ⟨by go_simp, ?_⟩) hS ?_
                    rotate_left 1
                    · intro w' hSw
                      go_simp <;> with_reducible rfl
                    try simp only [List.getElem_toArray, List.getElem_cons_zero, List.getElem_cons_succ, Act.put, List.setIfInBounds_toArray, List.set_cons_zero, List.set_cons_succ]
                    refine wpAnyH_take (i := 27) (v := ?_) rfl (by kernel_rfl) (by kernel_rfl) (by kernel_rfl) (fun _ _ _ h => h) (Or.inl ⟨by go_simp, ?_⟩) hS ?_
                    rotate_left 1
                    · intro w' hSw
                      go_simp <;> with_reducible rfl
                    try simp only [List.getElem_toArray, List.getElem_cons_zero, List.getElem_cons_succ, Act.put, List.setIfInBounds_toArray, List.set_cons_zero, List.set_cons_succ]
                    refine wpAnyH_take (i := 28) (v := ?_) rfl (by kernel_rfl) (by kernel_rfl) (by kernel_rfl) (fun _ _ _ h => h) (Or.inl ⟨by go_simp, ?_⟩) hS ?_
                    rotate_left 1
                    · intro w' hSw
                      go_simp <;> with_reducible rfl
                    try simp only [List.getElem_toArray, List.getElem_cons_zero, List.getElem_cons_succ, Act.put, List.setIfInBounds_toArray, List.set_cons_zero, List.set_cons_succ]
                    refine wpAnyH_take (i := 29) (v := ?_) rfl (by kernel_rfl) (by kernel_rfl) (by kernel_rfl) (fun _ _ _ h => h) (Or.inl ⟨by go_simp, ?_⟩) hS ?_
                    rotate_left 1
                    · intro w' hSw
                      go_simp <;> with_reducible rfl
                    try simp only [List.getElem_toArray, List.getElem_cons_zero, List.getElem_cons_succ, Act.put, List.setIfInBounds_toArray, List.set_cons_zero, List.set_cons_succ]
                    refine wpAnyH_ready (rs := [30]) (by kernel_rfl) (by simp) (AllReadyH.cons rfl (fun K hK => ?_) AllReadyH.nil)
                    go_simp
                    refine (hmark _ hS.2).mono ?_
                    rintro _ w4 ⟨rfl, hbx⟩
                    go_simp
                    refine hK _ _ (keepS _ hbx) (fun hS => ?_)
                    clear hK K
                    try simp only [List.getElem_toArray, List.getElem_cons_zero, List.getElem_cons_succ, Act.put, List.setIfInBounds_toArray, List.set_cons_zero, List.set_cons_succ]
                    refine wpAnyH_take (i := 31) (v := ?_) rfl (by kernel_rfl) (by kernel_rfl) (by kernel_rfl) (fun _ _ _ h => h) (Or.inl ⟨by go_simp, ?_⟩) hS ?_
                    rotate_left 1
                    · intro w' hSw
                      go_simp <;> with_reducible rfl
                    try simp only [List.getElem_toArray, List.getElem_cons_zero, List.getElem_cons_succ, Act.put, List.setIfInBounds_toArray, List.set_cons_zero, List.set_cons_succ]
                    refine wpAnyH_take (i := 32) (v := ?_) rfl (by kernel_rfl) (by kernel_rfl) (by kernel_rfl) (fun _ _ _ h => h) (Or.inl ⟨by go_simp, ?_⟩) hS ?_
                    rotate_left 1
                    · intro w' hSw
                      go_simp <;> with_reducible rfl
                    try simp only [List.getElem_toArray, List.getElem_cons_zero, List.getElem_cons_succ, Act.put, List.setIfInBounds_toArray, List.set_cons_zero, List.set_cons_succ]
                    refine wpAnyH_take (i := 33) (v := ?_) rfl (by kernel_rfl) (by kernel_rfl) (by kernel_rfl) (fun _ _ _ h => h) (Or.inl ⟨by go_simp, ?_⟩) hS ?_
                    rotate_left 1
                    · intro w' hSw
                      go_simp <;> with_reducible rfl
                    try simp only [List.getElem_toArray, List.getElem_cons_zero, List.getElem_cons_succ, Act.put, List.setIfInBounds_toArray, List.set_cons_zero, List.set_cons_succ]
                    refine wpAnyH_take (i := 34) (v := ?_) rfl (by kernel_rfl) (by kernel_rfl) (by kernel_rfl) (fun _ _ _ h => h) (Or.inl ⟨by rfl, ?_⟩) hS ?_
                    rotate_left 1
                    · intro w' hSw
                      go_simp <;> with_reducible rfl
                    try simp only [List.getElem_toArray, List.getElem_cons_zero, List.getElem_cons_succ, Act.put, List.setIfInBounds_toArray, List.set_cons_zero, List.set_cons_succ]
                    refine wpAnyH_done (by kernel_rfl) ?_ _
                    clear keepS hmark co cg c3 c4 hS
                    go_wp2_with fail
                    go_roundw
                    case rel => exact ⟨j + 1, by omega, by go_num, hP.below hbx⟩
                    case measure => simp [intOf]; omega
                  · have d3 : decide (j < x.n) = false := decide_eq_false (by omega)
                    have keepS : ∀ w', Below wr.heap.size wr w' → ((w'.cell? (a.add k) = some (.slice A' x.n c') ∧ w'.cell? ⟨wg.heap.size, k, none⟩ = some (.slice (some ⟨gb, 0, none⟩) (x.n + 64) cap) ∧ w'.cell? ⟨gb, j, none⟩ = some (.string s)) ∧ Below wr.heap.size wr w') := by
                      intro w' hb'
                      have hkk : ∀ (p : Addr) u, wr.cell? p = some u → w'.cell? p = some u := fun p u hu => (hb'.cell (World.block_lt_of_cell? wr _ hu)).trans hu
                      exact ⟨⟨hkk _ _ co, hkk _ _ cg, hkk _ _ c3⟩, hb'⟩
                    have hmark : ∀ w', Below wr.heap.size wr w' → Calls Tryz.prog 103 #[.int .i64 k, .int .i64 j] w' fun x w2 => x = .returned (.string s) ∧ Below wr.heap.size wr w2 := fun w' h => (mt_call k j s w' (by omega) (by omega) (by omega) (by omega) hs).mono fun x w2 ⟨h1, h2⟩ => ⟨h1, h.trans (h2.mono h.size)⟩
                    go_wp2_with fail
                    refine wp_region_held_drew (S := fun w' => ((w'.cell? (a.add k) = some (.slice A' x.n c') ∧ w'.cell? ⟨wg.heap.size, k, none⟩ = some (.slice (some ⟨gb, 0, none⟩) (x.n + 64) cap) ∧ w'.cell? ⟨gb, j, none⟩ = some (.string s)) ∧ Below wr.heap.size wr w')) (by kernel_rfl) (keepS _ ((Below.refl _ _).drew)) (fun hS => ?_)
                    refine wpAnyH_take (i := 0) (v := ?_) rfl (by kernel_rfl) (by kernel_rfl) (by kernel_rfl) (fun _ _ _ h => h) (Or.inl ⟨by rfl, ?_⟩) hS ?_
                    rotate_left 1
                    · intro w' hSw
                      go_simp <;> with_reducible rfl
                    try simp only [List.getElem_toArray, List.getElem_cons_zero, List.getElem_cons_succ, Act.put, List.setIfInBounds_toArray, List.set_cons_zero, List.set_cons_succ]
                    refine wpAnyH_take (i := 1) (v := ?_) rfl (by kernel_rfl) (by kernel_rfl) (by kernel_rfl) (fun _ _ _ h => h) (Or.inl ⟨by rfl, ?_⟩) hS ?_
                    rotate_left 1
                    · intro w' hSw
                      go_simp <;> with_reducible rfl
                    try simp only [List.getElem_toArray, List.getElem_cons_zero, List.getElem_cons_succ, Act.put, List.setIfInBounds_toArray, List.set_cons_zero, List.set_cons_succ]
                    refine wpAnyH_take (i := 2) (v := ?_) rfl (by kernel_rfl) (by kernel_rfl) (by kernel_rfl) (fun _ _ _ h => h) (Or.inl ⟨by rfl, ?_⟩) hS ?_
                    rotate_left 1
                    · intro w' hSw
                      go_simp <;> with_reducible rfl
                    try simp only [List.getElem_toArray, List.getElem_cons_zero, List.getElem_cons_succ, Act.put, List.setIfInBounds_toArray, List.set_cons_zero, List.set_cons_succ]
                    refine wpAnyH_take (i := 3) (v := ?_) rfl (by kernel_rfl) (by kernel_rfl) (by kernel_rfl) (fun _ _ _ h => h) (Or.inl ⟨by rfl, ?_⟩) hS ?_
                    rotate_left 1
                    · intro w' hSw
                      go_simp <;> with_reducible rfl
                    try simp only [List.getElem_toArray, List.getElem_cons_zero, List.getElem_cons_succ, Act.put, List.setIfInBounds_toArray, List.set_cons_zero, List.set_cons_succ]
                    refine wpAnyH_take (i := 4) (v := ?_) rfl (by kernel_rfl) (by kernel_rfl) (by kernel_rfl) (fun _ _ _ h => h) (Or.inl ⟨by rfl, ?_⟩) hS ?_
                    rotate_left 1
                    · intro w' hSw
                      go_simp <;> with_reducible rfl
                    try simp only [List.getElem_toArray, List.getElem_cons_zero, List.getElem_cons_succ, Act.put, List.setIfInBounds_toArray, List.set_cons_zero, List.set_cons_succ]
                    refine wpAnyH_take (i := 5) (v := ?_) rfl (by kernel_rfl) (by kernel_rfl) (by kernel_rfl) (fun _ _ _ h => h) (Or.inl ⟨by rfl, ?_⟩) hS ?_
                    rotate_left 1
                    · intro w' hSw
                      go_simp <;> with_reducible rfl
                    try simp only [List.getElem_toArray, List.getElem_cons_zero, List.getElem_cons_succ, Act.put, List.setIfInBounds_toArray, List.set_cons_zero, List.set_cons_succ]
                    refine wpAnyH_take (i := 6) (v := ?_) rfl (by kernel_rfl) (by kernel_rfl) (by kernel_rfl) (fun _ _ _ h => h) (Or.inl ⟨by rfl, ?_⟩) hS ?_
                    rotate_left 1
                    · intro w' hSw
                      go_simp <;> with_reducible rfl
                    try simp only [List.getElem_toArray, List.getElem_cons_zero, List.getElem_cons_succ, Act.put, List.setIfInBounds_toArray, List.set_cons_zero, List.set_cons_succ]
                    refine wpAnyH_take (i := 7) (v := ?_) rfl (by kernel_rfl) (by kernel_rfl) (by kernel_rfl) (fun _ _ _ h => h) (Or.inl ⟨by rfl, ?_⟩) hS ?_
                    rotate_left 1
                    · intro w' hSw
                      go_simp <;> with_reducible rfl
                    try simp only [List.getElem_toArray, List.getElem_cons_zero, List.getElem_cons_succ, Act.put, List.setIfInBounds_toArray, List.set_cons_zero, List.set_cons_succ]
                    refine wpAnyH_take (i := 8) (v := ?_) rfl (by kernel_rfl) (by kernel_rfl) (by kernel_rfl) (fun _ _ _ h => h) (Or.inl ⟨by rfl, ?_⟩) hS ?_
                    rotate_left 1
                    · intro w' hSw
                      go_simp <;> with_reducible rfl
                    try simp only [List.getElem_toArray, List.getElem_cons_zero, List.getElem_cons_succ, Act.put, List.setIfInBounds_toArray, List.set_cons_zero, List.set_cons_succ]
                    refine wpAnyH_ready (rs := [9]) (by kernel_rfl) (by simp) (AllReadyH.cons rfl (fun K hK => ?_) AllReadyH.nil)
                    go_simp
                    refine (hmark _ hS.2).mono ?_
                    rintro _ w2 ⟨rfl, hbx⟩
                    go_simp
                    refine hK _ _ (keepS _ hbx) (fun hS => ?_)
                    clear hK K
                    try simp only [List.getElem_toArray, List.getElem_cons_zero, List.getElem_cons_succ, Act.put, List.setIfInBounds_toArray, List.set_cons_zero, List.set_cons_succ]
                    refine wpAnyH_take (i := 10) (v := ?_) rfl (by kernel_rfl) (by kernel_rfl) (by kernel_rfl) (fun _ _ _ h => h) (Or.inl ⟨by rfl, ?_⟩) hS ?_
                    rotate_left 1
                    · intro w' hSw
                      go_simp <;> with_reducible rfl
                    try simp only [List.getElem_toArray, List.getElem_cons_zero, List.getElem_cons_succ, Act.put, List.setIfInBounds_toArray, List.set_cons_zero, List.set_cons_succ]
                    refine wpAnyH_take (i := 11) (v := ?_) rfl (by kernel_rfl) (by kernel_rfl) (by kernel_rfl) (fun _ _ _ h => h) (Or.inl ⟨by rfl, ?_⟩) hS ?_
                    rotate_left 1
                    · intro w' hSw
                      go_simp <;> with_reducible rfl
                    try simp only [List.getElem_toArray, List.getElem_cons_zero, List.getElem_cons_succ, Act.put, List.setIfInBounds_toArray, List.set_cons_zero, List.set_cons_succ]
                    refine wpAnyH_take (i := 12) (v := ?_) rfl (by kernel_rfl) (by kernel_rfl) (by kernel_rfl) (fun _ _ _ h => h) (Or.inl ⟨by rfl, ?_⟩) hS ?_
                    rotate_left 1
                    · intro w' hSw
                      go_simp <;> with_reducible rfl
                    try simp only [List.getElem_toArray, List.getElem_cons_zero, List.getElem_cons_succ, Act.put, List.setIfInBounds_toArray, List.set_cons_zero, List.set_cons_succ]
                    refine wpAnyH_take (i := 13) (v := ?_) rfl (by kernel_rfl) (by kernel_rfl) (by kernel_rfl) (fun _ _ _ h => h) (Or.inl ⟨by go_simp, ?_⟩) hS ?_
                    rotate_left 1
                    · intro w' hSw
                      go_simp <;> with_reducible rfl
                    try simp only [List.getElem_toArray, List.getElem_cons_zero, List.getElem_cons_succ, Act.put, List.setIfInBounds_toArray, List.set_cons_zero, List.set_cons_succ]
                    refine wpAnyH_take (i := 14) (v := ?_) rfl (by kernel_rfl) (by kernel_rfl) (by kernel_rfl) (fun _ _ _ h => h) (Or.inl ⟨by go_simp, ?_⟩) hS ?_
                    rotate_left 1
                    · intro w' hSw
                      go_simp <;> with_reducible rfl
                    try simp only [List.getElem_toArray, List.getElem_cons_zero, List.getElem_cons_succ, Act.put, List.setIfInBounds_toArray, List.set_cons_zero, List.set_cons_succ]
                    refine wpAnyH_take (i := 15) (v := ?_) rfl (by kernel_rfl) (by kernel_rfl) (by kernel_rfl) (fun _ _ _ h => h) (Or.inl ⟨by go_simp, ?_⟩) hS ?_
                    rotate_left 1
                    · intro w' hSw
                      go_simp <;> with_reducible rfl
                    try simp only [List.getElem_toArray, List.getElem_cons_zero, List.getElem_cons_succ, Act.put, List.setIfInBounds_toArray, List.set_cons_zero, List.set_cons_succ]
                    refine wpAnyH_take (i := 16) (v := ?_) rfl (by kernel_rfl) (by kernel_rfl) (by kernel_rfl) (fun _ _ _ h => h) (Or.inl ⟨by go_simp, ?_⟩) hS ?_
                    rotate_left 1
                    · intro w' hSw
                      go_simp <;> with_reducible rfl
                    try simp only [List.getElem_toArray, List.getElem_cons_zero, List.getElem_cons_succ, Act.put, List.setIfInBounds_toArray, List.set_cons_zero, List.set_cons_succ]
                    refine wpAnyH_take (i := 17) (v := ?_) rfl (by kernel_rfl) (by kernel_rfl) (by kernel_rfl) (fun _ _ _ h => h) (Or.inl ⟨by go_simp, ?_⟩) hS ?_
                    rotate_left 1
                    · intro w' hSw
                      go_simp <;> with_reducible rfl
                    try simp only [List.getElem_toArray, List.getElem_cons_zero, List.getElem_cons_succ, Act.put, List.setIfInBounds_toArray, List.set_cons_zero, List.set_cons_succ]
                    refine wpAnyH_take (i := 18) (v := ?_) rfl (by kernel_rfl) (by kernel_rfl) (by kernel_rfl) (fun _ _ _ h => h) (Or.inl ⟨by go_simp, ?_⟩) hS ?_
                    rotate_left 1
                    · intro w' hSw
                      go_simp <;> with_reducible rfl
                    try simp only [List.getElem_toArray, List.getElem_cons_zero, List.getElem_cons_succ, Act.put, List.setIfInBounds_toArray, List.set_cons_zero, List.set_cons_succ]
                    refine wpAnyH_take (i := 19) (v := ?_) rfl (by kernel_rfl) (by kernel_rfl) (by kernel_rfl) (fun _ _ _ h => h) (Or.inl ⟨by go_simp, ?_⟩) hS ?_
                    rotate_left 1
                    · intro w' hSw
                      go_simp <;> with_reducible rfl
                    try simp only [List.getElem_toArray, List.getElem_cons_zero, List.getElem_cons_succ, Act.put, List.setIfInBounds_toArray, List.set_cons_zero, List.set_cons_succ]
                    refine wpAnyH_take (i := 20) (v := ?_) rfl (by kernel_rfl) (by kernel_rfl) (by kernel_rfl) (fun _ _ _ h => h) (Or.inl ⟨by go_simp, ?_⟩) hS ?_
                    rotate_left 1
                    · intro w' hSw
                      go_simp <;> with_reducible rfl
                    try simp only [List.getElem_toArray, List.getElem_cons_zero, List.getElem_cons_succ, Act.put, List.setIfInBounds_toArray, List.set_cons_zero, List.set_cons_succ]
                    refine wpAnyH_take (i := 21) (v := undef) rfl (by kernel_rfl) (by kernel_rfl) (by kernel_rfl) (fun _ _ _ h => h) (Or.inr ⟨by go_simp, rfl⟩) hS ?_
                    try simp only [List.getElem_toArray, List.getElem_cons_zero, List.getElem_cons_succ, Act.put, List.setIfInBounds_toArray, List.set_cons_zero, List.set_cons_succ]
                    refine wpAnyH_take (i := 22) (v := undef) rfl (by kernel_rfl) (by kernel_rfl) (by kernel_rfl) (fun _ _ _ h => h) (Or.inr ⟨by go_simp, rfl⟩) hS ?_
                    try simp only [List.getElem_toArray, List.getElem_cons_zero, List.getElem_cons_succ, Act.put, List.setIfInBounds_toArray, List.set_cons_zero, List.set_cons_succ]
                    refine wpAnyH_take (i := 23) (v := undef) rfl (by kernel_rfl) (by kernel_rfl) (by kernel_rfl) (fun _ _ _ h => h) (Or.inr ⟨by go_simp, rfl⟩) hS ?_
                    try simp only [List.getElem_toArray, List.getElem_cons_zero, List.getElem_cons_succ, Act.put, List.setIfInBounds_toArray, List.set_cons_zero, List.set_cons_succ]
                    refine wpAnyH_take (i := 24) (v := undef) rfl (by kernel_rfl) (by kernel_rfl) (by kernel_rfl) (fun _ _ _ h => h) (Or.inr ⟨by go_simp, rfl⟩) hS ?_
                    try simp only [List.getElem_toArray, List.getElem_cons_zero, List.getElem_cons_succ, Act.put, List.setIfInBounds_toArray, List.set_cons_zero, List.set_cons_succ]
                    refine wpAnyH_take (i := 25) (v := undef) rfl (by kernel_rfl) (by kernel_rfl) (by kernel_rfl) (fun _ _ _ h => h) (Or.inr ⟨by go_simp, rfl⟩) hS ?_
                    try simp only [List.getElem_toArray, List.getElem_cons_zero, List.getElem_cons_succ, Act.put, List.setIfInBounds_toArray, List.set_cons_zero, List.set_cons_succ]
                    refine wpAnyH_take (i := 26) (v := undef) rfl (by kernel_rfl) (by kernel_rfl) (by kernel_rfl) (fun _ _ _ h => h) (Or.inr ⟨by go_simp, rfl⟩) hS ?_
                    try simp only [List.getElem_toArray, List.getElem_cons_zero, List.getElem_cons_succ, Act.put, List.setIfInBounds_toArray, List.set_cons_zero, List.set_cons_succ]
                    refine wpAnyH_take (i := 27) (v := undef) rfl (by kernel_rfl) (by kernel_rfl) (by kernel_rfl) (fun _ _ _ h => h) (Or.inr ⟨by go_simp, rfl⟩) hS ?_
                    try simp only [List.getElem_toArray, List.getElem_cons_zero, List.getElem_cons_succ, Act.put, List.setIfInBounds_toArray, List.set_cons_zero, List.set_cons_succ]
                    refine wpAnyH_take (i := 28) (v := undef) rfl (by kernel_rfl) (by kernel_rfl) (by kernel_rfl) (fun _ _ _ h => h) (Or.inr ⟨by go_simp, rfl⟩) hS ?_
                    try simp only [List.getElem_toArray, List.getElem_cons_zero, List.getElem_cons_succ, Act.put, List.setIfInBounds_toArray, List.set_cons_zero, List.set_cons_succ]
                    refine wpAnyH_take (i := 29) (v := undef) rfl (by kernel_rfl) (by kernel_rfl) (by kernel_rfl) (fun _ _ _ h => h) (Or.inr ⟨by go_simp, rfl⟩) hS ?_
                    try simp only [List.getElem_toArray, List.getElem_cons_zero, List.getElem_cons_succ, Act.put, List.setIfInBounds_toArray, List.set_cons_zero, List.set_cons_succ]
                    refine wpAnyH_take (i := 30) (v := undef) rfl (by kernel_rfl) (by kernel_rfl) (by kernel_rfl) (fun _ _ _ h => h) (Or.inr ⟨by go_simp, rfl⟩) hS ?_
                    try simp only [List.getElem_toArray, List.getElem_cons_zero, List.getElem_cons_succ, Act.put, List.setIfInBounds_toArray, List.set_cons_zero, List.set_cons_succ]
                    refine wpAnyH_take (i := 31) (v := undef) rfl (by kernel_rfl) (by kernel_rfl) (by kernel_rfl) (fun _ _ _ h => h) (Or.inr ⟨by go_simp, rfl⟩) hS ?_
                    try simp only [List.getElem_toArray, List.getElem_cons_zero, List.getElem_cons_succ, Act.put, List.setIfInBounds_toArray, List.set_cons_zero, List.set_cons_succ]
                    refine wpAnyH_take (i := 32) (v := undef) rfl (by kernel_rfl) (by kernel_rfl) (by kernel_rfl) (fun _ _ _ h => h) (Or.inr ⟨by go_simp, rfl⟩) hS ?_
                    try simp only [List.getElem_toArray, List.getElem_cons_zero, List.getElem_cons_succ, Act.put, List.setIfInBounds_toArray, List.set_cons_zero, List.set_cons_succ]
                    refine wpAnyH_take (i := 33) (v := ?_) rfl (by kernel_rfl) (by kernel_rfl) (by kernel_rfl) (fun _ _ _ h => h) (Or.inl ⟨by go_simp, ?_⟩) hS ?_
                    rotate_left 1
                    · intro w' hSw
                      go_simp <;> with_reducible rfl
                    try simp only [List.getElem_toArray, List.getElem_cons_zero, List.getElem_cons_succ, Act.put, List.setIfInBounds_toArray, List.set_cons_zero, List.set_cons_succ]
                    refine wpAnyH_take (i := 34) (v := ?_) rfl (by kernel_rfl) (by kernel_rfl) (by kernel_rfl) (fun _ _ _ h => h) (Or.inl ⟨by rfl, ?_⟩) hS ?_
                    rotate_left 1
                    · intro w' hSw
                      go_simp <;> with_reducible rfl
                    try simp only [List.getElem_toArray, List.getElem_cons_zero, List.getElem_cons_succ, Act.put, List.setIfInBounds_toArray, List.set_cons_zero, List.set_cons_succ]
                    refine wpAnyH_done (by kernel_rfl) ?_ _
                    clear keepS hmark co cg c3 hS
                    go_wp2_with fail
                    go_roundw
                    case rel => exact ⟨j + 1, by omega, by go_num, hP.below hbx⟩
                    case measure => simp [intOf]; omega
                · have d2 : decide ((j : Int) < (x.n : Int) + 64) = false := decide_eq_false (by omega)
                  go_wp2_with fail
                  go_roundw
                  case rel => exact ⟨k + 1, by omega, by go_num, hP⟩
                  case measure => simp [intOf]; omega
            · have d1 : decide ((k : Int) < (ls.length : Int)) = false := decide_eq_false (by omega)
              obtain rfl : k = ls.length := by omega
              replace hP := hP.again (X' := fun k x => mks mkT k x.n ++ mks mkT (k + ls.length) 64)
              go_wp2_with fail
              obtain ⟨wq, rfl⟩ : ∃ wq : World, wq = wr := ⟨_, rfl⟩
              go_loopw [11] (fun i wr => ∃ k : Nat, k ≤ ls.length ∧ i = .int .i64 k ∧ Ph2 mkT 9 1 S ls 56 (fun k x => mks mkT k x.n ++ mks mkT (k + ls.length) 64) w wg.heap.size k wr) (fun i _ => ls.length - (intOf i).toNat)
              case atStart => exact ⟨0, Nat.zero_le _, rfl, hP⟩
              case round =>
                clear hP hk
                obtain ⟨k, hk, rfl, hP⟩ := hrel
                by_cases hlt : k < ls.length
                · have d1 : decide ((k : Int) < (ls.length : Int)) = true := decide_eq_true (by omega)
                  go_wp2_with (at_make; refine wpList_make_full _ rfl _ _ 56 rfl wr.heap.size 9 i0 (.string ⟨#[]⟩) 1 Tryz.underlying56 hi hz0 hz1 .i64 .i64 64 64 64 rfl rfl (by omega) (by omega) (by rw [hz2]; omega) (by unfold maxLen; omega) (Nat.le_refl _) ?_; intro w1 hown1 hgrow1)
                  have hb1 : Below wr.heap.size wr w1 := (Below.refl _ _).grown hgrow1 (Nat.le_refl _) (by simp)
                  have hcs : ((madeCells (Value.string ⟨#[]⟩).cells (64 * 1)).toList).length = 64 := by simpa using hown1.1
                  have hbk : Bk w1 wr.heap.size 9 (madeCells (Value.string ⟨#[]⟩).cells (64 * 1)).toList := own_all hown1 (Nat.le_refl _)
                  obtain ⟨wm, rfl⟩ : ∃ wm : World, wm = wr := ⟨_, rfl⟩
                  have HC := Lib.hid hcs
                  clear hcs hown1 hgrow1
                  go_loopw [13] (fun i wr => ∃ (j : Nat) (cs : List Value), j ≤ 64 ∧ i = .int .i64 j ∧ Bk wr wm.heap.size 9 cs ∧ Hid (cs.length = 64) ∧ Hid (cs.take j = mks mkT (k + ls.length) j) ∧ Below wm.heap.size wm wr) (fun i _ => 64 - (intOf i).toNat)
                  case atStart => exact ⟨0, _, Nat.zero_le _, rfl, hbk, HC, Lib.hid (by simp [mks]), hb1⟩
                  case round =>
                    clear hb1 hbk HC
                    obtain ⟨j, cs, hj, rfl, hbk, HC, HM, hb⟩ := hrel
                    by_cases hjl : j < 64
                    · have d2 : decide ((j : Int) < 64) = true := decide_eq_true (by omega)
                      have i1 : (0 : Int) ≤ (j : Int) := by omega
                      have i2 : (j : Int) < 64 := by omega
                      obtain ⟨s, hs⟩ : ∃ s : ByteArray, Hid (s = ⟨(mtx ((k : Int) + (ls.length : Int)) j).toArray⟩) := ⟨_, Lib.hid rfl⟩
                      have HE : Hid (mkT (k + ls.length) j = [.string s]) := Lib.hid (by rw [hs.out]; simp [mkT])
                      go_wp2_with fail
                      refine (mt_call ((k : Int) + ls.length) j s _ (by omega) (by omega) (by omega) (by omega) hs).mono ?_
                      rintro _ w2 ⟨rfl, hb2⟩
                      have hbk2 : Bk w2 wm.heap.size 9 cs := (hb2.block _ hbk.lt).trans hbk
                      have hf := frozen_blk hbk2 j
                      have hc : w2.cell? ⟨wm.heap.size, j, none⟩ = some (cs[j]'(by have := HC.out; omega)) := by rw [hbk2.cell]; exact List.getElem?_eq_getElem _
                      have hbw : Below wm.heap.size wm w2 := hb.trans (hb2.mono hb.size)
                      clear hb2 hbk hb
                      go_wp2_with fail
                      go_roundw
                      case rel => exact ⟨j + 1, _, by omega, by go_num, hbk2.set j _, Lib.hid (by simp [HC.out]), Lib.hid (by rw [take_set_succ _ _ _ (by rw [HC.out]; exact hjl), HM.out, mks_succ, HE.out]), hbw.setCell (Nat.le_refl _) _⟩
                      case measure => simp [intOf]; omega
                    · have d2 : decide ((j : Int) < 64) = false := decide_eq_false (by omega)
                      obtain rfl : j = 64 := by omega
                      have hcs : cs = mks mkT (k + ls.length) 64 := by rw [← HM.out, List.take_of_length_le (by rw [HC.out]; omega)]
                      subst hcs
                      replace hP := hP.below hb
                      obtain ⟨a, x, A', c', rfl, hx, co, n1, n2, n3, hv⟩ := hP.list ho hlt
                      have hxl : x.n ≤ 1000000 := hl x (List.mem_of_getElem? hx.out)
                      have hcl : ls.length ≤ c := ho.le
                      have hFo := hP.1
                      have hrow := hFo.row k x hx.out
                      rw [mksOf_at hx.out, hv.out] at hrow
                      have hI := Inn.start hP.1 hx.out
                      rw [mksOf_at hx.out, hv.out] at hI
                      have hnews : ∀ j u, (mks mkT (k + ls.length) 64)[j]? = some u → wr.cell? ((⟨wm.heap.size, 0, none⟩ : Addr).add j) = some u := by
                        intro q u hu
                        have hadd : (⟨wm.heap.size, 0, none⟩ : Addr).add q = ⟨wm.heap.size, q, none⟩ := by unfold Addr.add; split <;> simp_all
                        rw [hadd, hbk.cell, hu]
                      have hone : ∀ u ∈ mks mkT (k + ls.length) 64, u.oneCell' = true := by
                        intro u hu
                        simp only [mks, List.mem_flatMap, mkT, List.mem_singleton] at hu
                        obtain ⟨_, _, rfl⟩ := hu
                        rfl
                      have HN := Lib.hid hnews
                      have HO := Lib.hid hone
                      clear n3 hnews hone hbk
                      have hwm := hb.size
                      go_wp2_with (at_builtin; refine wpList_append_grew _ rfl (.tmp 148) (.tmp 149) 56 rfl 9 i0 (.string ⟨#[]⟩) 1 16 Tryz.underlying56 hi hz0 hz1 hz2 rfl (.slice A' x.n c') x.b x.n (mks mkT k x.n) rfl hrow ⟨wm.heap.size, 0, none⟩ 64 64 (mks mkT (k + ls.length) 64) rfl ?c0 HN.out HO.out (by unfold maxLen; omega) (by omega) (by decide) ?_)
                      case c0 => rw [mks_len mkT_len]
                      intro v' w3 g' hrow3 hg3
                      obtain ⟨hI3, hF3⟩ := Inn.step hFo hFo hx.out hI (Below.refl _ _) hrow3 hg3
                      obtain ⟨⟨gu, cg⟩, fg⟩ := hP.gcell hGw hS hx.out hI3
                      have HP := Lib.hid (hP.step hGw hS hx.out hI3 hF3 rfl rfl)
                      obtain ⟨A2, c2, rfl, _, _, hA2⟩ := hI3.row.shape
                      obtain rfl := hA2 (by omega)
                      clear hP hI hFo hI3 hF3 hrow hrow3 hg3 co
                      go_wp2_with fail
                      go_roundw
                      case rel => exact ⟨k + 1, by omega, by go_num, HP.out⟩
                      case measure => simp [intOf]; omega
                · have d1 : decide ((k : Int) < (ls.length : Int)) = false := decide_eq_false (by omega)
                  obtain rfl : k = ls.length := by omega
                  go_wp2_with fail
                  obtain ⟨wt, rfl⟩ : ∃ wt : World, wt = wr := ⟨_, rfl⟩
                  go_loopw [14] (fun i wr => ∃ k : Nat, k ≤ ls.length ∧ i = .int .i64 k ∧ Ph2 mkT 9 1 S ls 56 (fun k x => mks mkT k x.n ++ mks mkT (k + ls.length) 64) w wg.heap.size ls.length wr) (fun i _ => ls.length - (intOf i).toNat)
                  case atStart => exact ⟨0, Nat.zero_le _, rfl, hP⟩
                  case round =>
                    clear hP hk
                    obtain ⟨k, hk, rfl, hP⟩ := hrel
                    by_cases hlt : k < ls.length
                    · have d1 : decide ((k : Int) < (ls.length : Int)) = true := decide_eq_true (by omega)
                      obtain ⟨a, x, A', c', rfl, hx, co, n1, n2, n3, hv⟩ := hP.list ho hlt
                      have hxl : x.n ≤ 1000000 := hl x (List.mem_of_getElem? hx.out)
                      have hcl : ls.length ≤ c := ho.le
                      have N3 := Lib.hid n3
                      clear n3 co
                      go_wp2_with fail
                      obtain ⟨wo, rfl⟩ : ∃ wo : World, wo = wr := ⟨_, rfl⟩
                      go_loopw [15] (fun i wr => ∃ j : Nat, j ≤ x.n ∧ i = .int .i64 j ∧ Ph2 mkT 9 1 S ls 56 (fun k x => mks mkT k x.n ++ mks mkT (k + ls.length) 64) w wg.heap.size ls.length wr) (fun i _ => x.n - (intOf i).toNat)
                      case atStart => exact ⟨0, Nat.zero_le _, rfl, hP⟩
                      case round =>
                        clear hP
                        obtain ⟨j, hj, rfl, hP⟩ := hrel
                        obtain ⟨gb, cap, cg, g1, g2, g3, g4⟩ := hP.at_ hlt hx.out
                        have co : wr.cell? (a.add k) = some (.slice A' x.n c') := by
                          obtain ⟨a', x', e1, e2, e3⟩ := ho.at_ hP.2.1 hlt
                          injection e1 with e1
                          have : x' = x := by have := e2.out.symm.trans hx.out; injection this
                          subst this
                          rw [e1, e3, hv.out]
                        have G3 := Lib.hid g3
                        have G4 := Lib.hid g4
                        clear g3 g4
                        by_cases hjl : j < x.n
                        · have d2 : decide ((j : Int) < (x.n : Int)) = true := decide_eq_true (by omega)
                          have i1 : (0 : Int) ≤ (j : Int) := by omega
                          have i2 : (j : Int) < (x.n : Int) := by omega
                          have i3 : (j : Int) < (x.n : Int) + 64 := by omega
                          obtain rfl := N3.out (by omega)
                          have k1 : (0 : Int) ≤ (k : Int) := by omega
                          have k2 : (k : Int) < (ls.length : Int) := by omega
                          obtain ⟨s, hs⟩ : ∃ s : ByteArray, Hid (s = ⟨(mtx k j).toArray⟩) := ⟨_, Lib.hid rfl⟩
                          have c3 : wr.cell? ⟨gb, j, none⟩ = some (.string s) := by
                            have := mks_get mkT_len k x.n j 0 hjl (by omega)
                            rw [G3.out j (by omega), List.getElem?_append_left (by rw [mks_len mkT_len]; omega), hs.out]
                            simpa [mkT] using this
                          have c4 : wr.cell? ⟨x.b, j, none⟩ = some (.string s) := by
                            have := mks_get mkT_len k x.n j 0 hjl (by omega)
                            rw [G4.out j (by omega), hs.out]
                            simpa [mkT] using this
                          have keepS : ∀ w', Below wr.heap.size wr w' → ((w'.cell? (a.add k) = some (.slice (some ⟨x.b, 0, none⟩) x.n c') ∧ w'.cell? ⟨wg.heap.size, k, none⟩ = some (.slice (some ⟨gb, 0, none⟩) (x.n + 64) cap) ∧ w'.cell? ⟨gb, j, none⟩ = some (.string s) ∧ w'.cell? ⟨x.b, j, none⟩ = some (.string s)) ∧ Below wr.heap.size wr w') := by
                            intro w' hb'
                            have hkk : ∀ (p : Addr) u, wr.cell? p = some u → w'.cell? p = some u := fun p u hu => (hb'.cell (World.block_lt_of_cell? wr _ hu)).trans hu
                            exact ⟨⟨hkk _ _ co, hkk _ _ cg, hkk _ _ c3, hkk _ _ c4⟩, hb'⟩
                          have hmark : ∀ w', Below wr.heap.size wr w' → Calls Tryz.prog 103 #[.int .i64 k, .int .i64 j] w' fun x w2 => x = .returned (.string s) ∧ Below wr.heap.size wr w2 := fun w' h => (mt_call k j s w' (by omega) (by omega) (by omega) (by omega) hs).mono fun x w2 ⟨h1, h2⟩ => ⟨h1, h.trans (h2.mono h.size)⟩
                          go_wp2_with fail
                          refine wp_region_held_drew (S := fun w' => ((w'.cell? (a.add k) = some (.slice (some ⟨x.b, 0, none⟩) x.n c') ∧ w'.cell? ⟨wg.heap.size, k, none⟩ = some (.slice (some ⟨gb, 0, none⟩) (x.n + 64) cap) ∧ w'.cell? ⟨gb, j, none⟩ = some (.string s) ∧ w'.cell? ⟨x.b, j, none⟩ = some (.string s)) ∧ Below wr.heap.size wr w')) (by kernel_rfl) (keepS _ ((Below.refl _ _).drew)) (fun hS => ?_)
                          refine wpAnyH_take (i := 0) (v := ?_) rfl (by kernel_rfl) (by kernel_rfl) (by kernel_rfl) (fun _ _ _ h => h) (Or.inl ⟨by rfl, ?_⟩) hS ?_
                          rotate_left 1
                          · intro w' hSw
                            go_simp <;> with_reducible rfl
                          try simp only [List.getElem_toArray, List.getElem_cons_zero, List.getElem_cons_succ, Act.put, List.setIfInBounds_toArray, List.set_cons_zero, List.set_cons_succ]
                          refine wpAnyH_take (i := 1) (v := ?_) rfl (by kernel_rfl) (by kernel_rfl) (by kernel_rfl) (fun _ _ _ h => h) (Or.inl ⟨by rfl, ?_⟩) hS ?_
                          rotate_left 1
                          · intro w' hSw
                            go_simp <;> with_reducible rfl
                          try simp only [List.getElem_toArray, List.getElem_cons_zero, List.getElem_cons_succ, Act.put, List.setIfInBounds_toArray, List.set_cons_zero, List.set_cons_succ]
                          refine wpAnyH_take (i := 2) (v := ?_) rfl (by kernel_rfl) (by kernel_rfl) (by kernel_rfl) (fun _ _ _ h => h) (Or.inl ⟨by rfl, ?_⟩) hS ?_
                          rotate_left 1
                          · intro w' hSw
                            go_simp <;> with_reducible rfl
                          try simp only [List.getElem_toArray, List.getElem_cons_zero, List.getElem_cons_succ, Act.put, List.setIfInBounds_toArray, List.set_cons_zero, List.set_cons_succ]
                          refine wpAnyH_take (i := 3) (v := ?_) rfl (by kernel_rfl) (by kernel_rfl) (by kernel_rfl) (fun _ _ _ h => h) (Or.inl ⟨by rfl, ?_⟩) hS ?_
                          rotate_left 1
                          · intro w' hSw
                            go_simp <;> with_reducible rfl
                          try simp only [List.getElem_toArray, List.getElem_cons_zero, List.getElem_cons_succ, Act.put, List.setIfInBounds_toArray, List.set_cons_zero, List.set_cons_succ]
                          refine wpAnyH_take (i := 4) (v := ?_) rfl (by kernel_rfl) (by kernel_rfl) (by kernel_rfl) (fun _ _ _ h => h) (Or.inl ⟨by rfl, ?_⟩) hS ?_
                          rotate_left 1
                          · intro w' hSw
                            go_simp <;> with_reducible rfl
                          try simp only [List.getElem_toArray, List.getElem_cons_zero, List.getElem_cons_succ, Act.put, List.setIfInBounds_toArray, List.set_cons_zero, List.set_cons_succ]
                          refine wpAnyH_take (i := 5) (v := ?_) rfl (by kernel_rfl) (by kernel_rfl) (by kernel_rfl) (fun _ _ _ h => h) (Or.inl ⟨by rfl, ?_⟩) hS ?_
                          rotate_left 1
                          · intro w' hSw
                            go_simp <;> with_reducible rfl
                          try simp only [List.getElem_toArray, List.getElem_cons_zero, List.getElem_cons_succ, Act.put, List.setIfInBounds_toArray, List.set_cons_zero, List.set_cons_succ]
                          refine wpAnyH_take (i := 6) (v := ?_) rfl (by kernel_rfl) (by kernel_rfl) (by kernel_rfl) (fun _ _ _ h => h) (Or.inl ⟨by rfl, ?_⟩) hS ?_
                          rotate_left 1
                          · intro w' hSw
                            go_simp <;> with_reducible rfl
                          try simp only [List.getElem_toArray, List.getElem_cons_zero, List.getElem_cons_succ, Act.put, List.setIfInBounds_toArray, List.set_cons_zero, List.set_cons_succ]
                          refine wpAnyH_take (i := 7) (v := ?_) rfl (by kernel_rfl) (by kernel_rfl) (by kernel_rfl) (fun _ _ _ h => h) (Or.inl ⟨by rfl, ?_⟩) hS ?_
                          rotate_left 1
                          · intro w' hSw
                            go_simp <;> with_reducible rfl
                          try simp only [List.getElem_toArray, List.getElem_cons_zero, List.getElem_cons_succ, Act.put, List.setIfInBounds_toArray, List.set_cons_zero, List.set_cons_succ]
                          refine wpAnyH_take (i := 8) (v := ?_) rfl (by kernel_rfl) (by kernel_rfl) (by kernel_rfl) (fun _ _ _ h => h) (Or.inl ⟨by rfl, ?_⟩) hS ?_
                          rotate_left 1
                          · intro w' hSw
                            go_simp <;> with_reducible rfl
                          try simp only [List.getElem_toArray, List.getElem_cons_zero, List.getElem_cons_succ, Act.put, List.setIfInBounds_toArray, List.set_cons_zero, List.set_cons_succ]
                          refine wpAnyH_ready (rs := [9]) (by kernel_rfl) (by simp) (AllReadyH.cons rfl (fun K hK => ?_) AllReadyH.nil)
                          go_simp
                          refine (hmark _ hS.2).mono ?_
                          rintro _ w2 ⟨rfl, hbx⟩
                          go_simp
                          refine hK _ _ (keepS _ hbx) (fun hS => ?_)
                          clear hK K
                          try simp only [List.getElem_toArray, List.getElem_cons_zero, List.getElem_cons_succ, Act.put, List.setIfInBounds_toArray, List.set_cons_zero, List.set_cons_succ]
                          refine wpAnyH_take (i := 10) (v := ?_) rfl (by kernel_rfl) (by kernel_rfl) (by kernel_rfl) (fun _ _ _ h => h) (Or.inl ⟨by rfl, ?_⟩) hS ?_
                          rotate_left 1
                          · intro w' hSw
                            go_simp <;> with_reducible rfl
                          try simp only [List.getElem_toArray, List.getElem_cons_zero, List.getElem_cons_succ, Act.put, List.setIfInBounds_toArray, List.set_cons_zero, List.set_cons_succ]
                          refine wpAnyH_take (i := 11) (v := ?_) rfl (by kernel_rfl) (by kernel_rfl) (by kernel_rfl) (fun _ _ _ h => h) (Or.inl ⟨by rfl, ?_⟩) hS ?_
                          rotate_left 1
                          · intro w' hSw
                            go_simp <;> with_reducible rfl
                          try simp only [List.getElem_toArray, List.getElem_cons_zero, List.getElem_cons_succ, Act.put, List.setIfInBounds_toArray, List.set_cons_zero, List.set_cons_succ]
                          refine wpAnyH_take (i := 12) (v := ?_) rfl (by kernel_rfl) (by kernel_rfl) (by kernel_rfl) (fun _ _ _ h => h) (Or.inl ⟨by rfl, ?_⟩) hS ?_
                          rotate_left 1
                          · intro w' hSw
                            go_simp <;> with_reducible rfl
                          try simp only [List.getElem_toArray, List.getElem_cons_zero, List.getElem_cons_succ, Act.put, List.setIfInBounds_toArray, List.set_cons_zero, List.set_cons_succ]
                          refine wpAnyH_take (i := 13) (v := ?_) rfl (by kernel_rfl) (by kernel_rfl) (by kernel_rfl) (fun _ _ _ h => h) (Or.inl ⟨by go_simp, ?_⟩) hS ?_
                          rotate_left 1
                          · intro w' hSw
                            go_simp <;> with_reducible rfl
                          try simp only [List.getElem_toArray, List.getElem_cons_zero, List.getElem_cons_succ, Act.put, List.setIfInBounds_toArray, List.set_cons_zero, List.set_cons_succ]
                          refine wpAnyH_take (i := 14) (v := ?_) rfl (by kernel_rfl) (by kernel_rfl) (by kernel_rfl) (fun _ _ _ h => h) (Or.inl ⟨by go_simp, ?_⟩) hS ?_
                          rotate_left 1
                          · intro w' hSw
                            go_simp <;> with_reducible rfl
                          try simp only [List.getElem_toArray, List.getElem_cons_zero, List.getElem_cons_succ, Act.put, List.setIfInBounds_toArray, List.set_cons_zero, List.set_cons_succ]
                          refine wpAnyH_take (i := 15) (v := ?_) rfl (by kernel_rfl) (by kernel_rfl) (by kernel_rfl) (fun _ _ _ h => h) (Or.inl ⟨by go_simp, ?_⟩) hS ?_
                          rotate_left 1
                          · intro w' hSw
                            go_simp <;> with_reducible rfl
                          try simp only [List.getElem_toArray, List.getElem_cons_zero, List.getElem_cons_succ, Act.put, List.setIfInBounds_toArray, List.set_cons_zero, List.set_cons_succ]
                          refine wpAnyH_take (i := 16) (v := ?_) rfl (by kernel_rfl) (by kernel_rfl) (by kernel_rfl) (fun _ _ _ h => h) (Or.inl ⟨by go_simp, ?_⟩) hS ?_
                          rotate_left 1
                          · intro w' hSw
                            go_simp <;> with_reducible rfl
                          try simp only [List.getElem_toArray, List.getElem_cons_zero, List.getElem_cons_succ, Act.put, List.setIfInBounds_toArray, List.set_cons_zero, List.set_cons_succ]
                          refine wpAnyH_take (i := 17) (v := ?_) rfl (by kernel_rfl) (by kernel_rfl) (by kernel_rfl) (fun _ _ _ h => h) (Or.inl ⟨by go_simp, ?_⟩) hS ?_
                          rotate_left 1
                          · intro w' hSw
                            go_simp <;> with_reducible rfl
                          try simp only [List.getElem_toArray, List.getElem_cons_zero, List.getElem_cons_succ, Act.put, List.setIfInBounds_toArray, List.set_cons_zero, List.set_cons_succ]
                          refine wpAnyH_take (i := 18) (v := ?_) rfl (by kernel_rfl) (by kernel_rfl) (by kernel_rfl) (fun _ _ _ h => h) (Or.inl ⟨by go_simp, ?_⟩) hS ?_
                          rotate_left 1
                          · intro w' hSw
                            go_simp <;> with_reducible rfl
                          try simp only [List.getElem_toArray, List.getElem_cons_zero, List.getElem_cons_succ, Act.put, List.setIfInBounds_toArray, List.set_cons_zero, List.set_cons_succ]
                          refine wpAnyH_take (i := 19) (v := ?_) rfl (by kernel_rfl) (by kernel_rfl) (by kernel_rfl) (fun _ _ _ h => h) (Or.inl ⟨by go_simp, ?_⟩) hS ?_
                          rotate_left 1
                          · intro w' hSw
                            go_simp <;> with_reducible rfl
                          try simp only [List.getElem_toArray, List.getElem_cons_zero, List.getElem_cons_succ, Act.put, List.setIfInBounds_toArray, List.set_cons_zero, List.set_cons_succ]
                          refine wpAnyH_take (i := 20) (v := ?_) rfl (by kernel_rfl) (by kernel_rfl) (by kernel_rfl) (fun _ _ _ h => h) (Or.inl ⟨by go_simp, ?_⟩) hS ?_
                          rotate_left 1
                          · intro w' hSw
                            go_simp <;> with_reducible rfl
                          try simp only [List.getElem_toArray, List.getElem_cons_zero, List.getElem_cons_succ, Act.put, List.setIfInBounds_toArray, List.set_cons_zero, List.set_cons_succ]
                          refine wpAnyH_take (i := 21) (v := ?_) rfl (by kernel_rfl) (by kernel_rfl) (by kernel_rfl) (fun _ _ _ h => h) (Or.inl ⟨by go_simp, ?_⟩) hS ?_
                          rotate_left 1
                          · intro w' hSw
                            go_simp <;> with_reducible rfl
                          try simp only [List.getElem_toArray, List.getElem_cons_zero, List.getElem_cons_succ, Act.put, List.setIfInBounds_toArray, List.set_cons_zero, List.set_cons_succ]
                          refine wpAnyH_ready (rs := [22]) (by kernel_rfl) (by simp) (AllReadyH.cons rfl (fun K hK => ?_) AllReadyH.nil)
                          go_simp
                          refine (hmark _ hS.2).mono ?_
                          rintro _ w4 ⟨rfl, hbx⟩
                          go_simp
                          refine hK _ _ (keepS _ hbx) (fun hS => ?_)
                          clear hK K
                          try simp only [List.getElem_toArray, List.getElem_cons_zero, List.getElem_cons_succ, Act.put, List.setIfInBounds_toArray, List.set_cons_zero, List.set_cons_succ]
                          refine wpAnyH_take (i := 23) (v := ?_) rfl (by kernel_rfl) (by kernel_rfl) (by kernel_rfl) (fun _ _ _ h => h) (Or.inl ⟨by go_simp, ?_⟩) hS ?_
                          rotate_left 1
                          · intro w' hSw
                            go_simp <;> with_reducible rfl
                          try simp only [List.getElem_toArray, List.getElem_cons_zero, List.getElem_cons_succ, Act.put, List.setIfInBounds_toArray, List.set_cons_zero, List.set_cons_succ]
                          refine wpAnyH_take (i := 24) (v := ?_) rfl (by kernel_rfl) (by kernel_rfl) (by kernel_rfl) (fun _ _ _ h => h) (Or.inl ⟨by go_simp, ?_⟩) hS ?_
                          rotate_left 1
                          · intro w' hSw
                            go_simp <;> with_reducible rfl
                          try simp only [List.getElem_toArray, List.getElem_cons_zero, List.getElem_cons_succ, Act.put, List.setIfInBounds_toArray, List.set_cons_zero, List.set_cons_succ]
                          refine wpAnyH_take (i := 25) (v := ?_) rfl (by kernel_rfl) (by kernel_rfl) (by kernel_rfl) (fun _ _ _ h => h) (Or.inl ⟨by rfl, ?_⟩) hS ?_
                          rotate_left 1
                          · intro w' hSw
                            go_simp <;> with_reducible rfl
                          try simp only [List.getElem_toArray, List.getElem_cons_zero, List.getElem_cons_succ, Act.put, List.setIfInBounds_toArray, List.set_cons_zero, List.set_cons_succ]
                          refine wpAnyH_done (by kernel_rfl) ?_ _
                          clear keepS hmark co cg c3 c4 hS
                          go_wp2_with fail
                          go_roundw
                          case rel => exact ⟨j + 1, by omega, by go_num, hP.below hbx⟩
                          case measure => simp [intOf]; omega
                        · have d2 : decide ((j : Int) < (x.n : Int)) = false := decide_eq_false (by omega)
                          go_wp2_with fail
                          go_roundw
                          case rel => exact ⟨k + 1, by omega, by go_num, hP⟩
                          case measure => simp [intOf]; omega
                    · have d1 : decide ((k : Int) < (ls.length : Int)) = false := decide_eq_false (by omega)
                      go_wp2_with fail
                      go_ret
                      exact ⟨rfl, hP.2.1⟩
end Go.Proofs.YtcmbeolicopicaaGreat
