/- flatIns: over this seat's program. -/
import Derived.Test.YtjebjninlejoeaaGreatDoorKFlatB
import Derived.Test.YtjebjninlejoeaaGreatDoorZQ
namespace Go.Proofs.YtjebjninlejoeaaGreatDoor
open Go.RowKit
set_option linter.unusedVariables false
set_option linter.unusedSimpArgs false
set_option maxRecDepth 100000

def mkI (k i : Nat) : List Value := ivV (markV (1000003 * ((k : Int) + 7) + (i : Int)))
theorem mkI_len (k i : Nat) : (mkI k i).length = 8 := rfl
theorem slI_info : (Tryz.prog.info? 23).map (fun i => (i.zero, i.size, i.bytes)) = some (some (.slice none 0 0), 1, 24) := by kernel_rfl
theorem ins_info : (Tryz.prog.info? 40).map (fun i => (i.zero, i.size, i.bytes)) = some (some (.agg #[.int .u8 0, .bool false, .int .i64 0, .int .i64 0, .bool false, .int .i64 0, .int .i64 0, .int .i64 0]), 8, 56) := by kernel_rfl
theorem markI_call (k i : Int) (t : Int) (w : World) (h0 : 0 ≤ k) (h1 : k ≤ 1000000000) (h2 : 0 ≤ i) (h3 : i ≤ 1000000000000000) (ht : Hid (t = 1000003 * (k + 7) + i)) :
    Calls Tryz.prog 32 #[.int .i64 k, .int .i64 i] w fun e w' => e = .returned (.agg #[.int .u8 0, .bool false, .int .i64 0, .int .i64 0, .bool false, .int .i64 t, .int .i64 0, .int .i64 0]) ∧ Below w.heap.size w w' := by
  have := markIns_any k i w h0 h1 h2 h3
  rw [← ht.out] at this
  exact this
theorem own_all8' {w : World} {base e g n cap : Nat} {xs : List Value} (h : w.ownsRow base e 8 (.slice (some ⟨g, 0, none⟩) n cap) n xs) (hc : cap ≤ n) : Bk w g e xs := own_all8 h hc
theorem mkI_cells {k i : Nat} {t : Int} (ht : Hid (t = 1000003 * ((k : Int) + 7) + (i : Int))) {w : World} {b o : Nat} (h : ∀ q, q < 8 → w.cell? ⟨b, o + q, none⟩ = (mkI k i)[q]?) :
    w.cell? ⟨b, o, none⟩ = some (.int .u8 0) ∧ w.cell? ⟨b, o + 1, none⟩ = some (.bool false) ∧ w.cell? ⟨b, o + 2, none⟩ = some (.int .i64 0) ∧ w.cell? ⟨b, o + 3, none⟩ = some (.int .i64 0) ∧ w.cell? ⟨b, o + 4, none⟩ = some (.bool false) ∧ w.cell? ⟨b, o + 5, none⟩ = some (.int .i64 t) ∧ w.cell? ⟨b, o + 6, none⟩ = some (.int .i64 0) ∧ w.cell? ⟨b, o + 7, none⟩ = some (.int .i64 0) := by
  rw [ht.out]
  exact ⟨h 0 (by omega), h 1 (by omega), h 2 (by omega), h 3 (by omega), h 4 (by omega), h 5 (by omega), h 6 (by omega), h 7 (by omega)⟩

set_option linter.unusedSimpArgs false in
set_option maxHeartbeats 8000000 in
theorem flatIns_any (S : Nat → Prop) (ls : List Fs) (C : Nat → List Value) (A : Option Addr) (c : Nat) (w : World) (h : Fl w 40 8 S ls C) (ho : Outer w S A c ls) (hS : ∀ b, S b → b < w.heap.size) (hn : ls.length ≤ 1000000) (hl : ∀ x ∈ ls, x.n ≤ 1000000) :
    Calls Tryz.prog 83 #[.slice A ls.length c] w fun e w' => e = .returned (.bool true) ∧ Ag (fun b => ¬ S b) w w' := by
  obtain ⟨i0, hi, hz0, hz1, hz2⟩ := info_parts ins_info
  obtain ⟨j0, hj, hj0, hj1, hj2⟩ := info_parts slI_info
  have hS0 := hS
  have heq := eql_iv
  have hsm := fun t : Int => ivE_same (markV t)
  simp only [markV, iv0] at hsm
  go_enter Tryz.func83, Tryz.ntmps83
  go_wp2_with fail
  go_loopw [3] (fun i wr => ∃ k : Nat, k ≤ ls.length ∧ i = .int .i64 k ∧ Ph1 mkI 40 8 S ls w k 0 wr) (fun i _ => ls.length - (intOf i).toNat)
  case atStart => exact ⟨0, Nat.zero_le _, rfl, Ph1.start h⟩
  case round =>
    clear h
    obtain ⟨k, hk, rfl, hP⟩ := hrel
    by_cases hlt : k < ls.length
    · have d1 : decide ((k : Int) < (ls.length : Int)) = true := decide_eq_true (by omega)
      obtain ⟨a, x, A', c', rfl, hx, co, n1, n2, n3, hv⟩ := hP.list ho hlt
      have hxl : x.n ≤ 1000000 := hl x (List.mem_of_getElem? hx.out)
      have hcl : ls.length ≤ c := ho.le
      have N3 := Lib.hid n3
      clear n3 co
      go_wp2_with fail
      obtain ⟨wo, rfl⟩ : ∃ wo : World, wo = wr := ⟨_, rfl⟩
      go_loopw [4] (fun i wr => ∃ j : Nat, j ≤ x.n ∧ i = .int .i64 j ∧ Ph1 mkI 40 8 S ls w k j wr) (fun i _ => x.n - (intOf i).toNat)
      case atStart => exact ⟨0, Nat.zero_le _, rfl, hP⟩
      case round =>
        clear hP
        obtain ⟨j, hj, rfl, hP⟩ := hrel
        have co : wr.cell? (a.add k) = some (.slice A' x.n c') := by
          obtain ⟨a', x', e1, e2, e3⟩ := ho.at_ hP.ag hlt
          injection e1 with e1
          have : x' = x := by have := e2.out.symm.trans hx.out; injection this
          subst this
          rw [e1, e3, hv.out]
        have hm : 0 ≤ (k : Int) := by omega
        by_cases hjl : j < x.n
        · have d2 : decide ((j : Int) < (x.n : Int)) = true := decide_eq_true (by omega)
          obtain rfl := N3.out (by omega)
          obtain ⟨t, ht⟩ : ∃ t : Int, Hid (t = 1000003 * ((k : Int) + 7) + (j : Int)) := ⟨_, Lib.hid rfl⟩
          have i1 : (0 : Int) ≤ (j : Int) := by omega
          have i2 : (j : Int) < (x.n : Int) := by omega
          have k1 : (0 : Int) ≤ (k : Int) := by omega
          have k2 : (k : Int) < (ls.length : Int) := by omega
          have hob : a.block ≠ x.b := by
            obtain ⟨a', e1, ⟨h1, h2⟩, _⟩ := ho.rd.2 (by intro e; have := congrArg List.length e; simp at this; rw [this] at hlt; simp at hlt)
            injection e1 with e1
            subst e1
            obtain ⟨C', h1', _⟩ := hP
            exact fun e => h1 (by rw [e]; exact (h1'.own k x hx.out (h1'.xb hx.out (by omega))).1)
          have keepS : ∀ w', Below wr.heap.size wr w' → w'.cell? (a.add k) = some (.slice (some ⟨x.b, 0, none⟩) x.n c') := fun w' hb' => (hb'.cell (World.block_lt_of_cell? wr _ co)).trans co
          go_wp2_with fail
          refine wp_region_held_drew (S := fun w' => w'.cell? (a.add k) = some (.slice (some ⟨x.b, 0, none⟩) x.n c')) (by kernel_rfl) (keepS _ ((Below.refl _ _).drew)) (fun hS => ?_)
          refine wpAnyH_take (i := 0) (v := ?_) rfl (by kernel_rfl) (by kernel_rfl) (by kernel_rfl) (fun _ _ _ h => h) (Or.inl ⟨by rfl, ?_⟩) hS ?_
          rotate_left 1
          · intro w' hSw
            go_simp <;> with_reducible rfl
          try simp only [List.getElem_toArray, List.getElem_cons_zero, List.getElem_cons_succ, Act.put, List.setIfInBounds_toArray, List.set_cons_zero, List.set_cons_succ]
          refine wpAnyH_take (i := 1) (v := ?_) rfl (by kernel_rfl) (by kernel_rfl) (by kernel_rfl) (fun _ _ _ h => h) (Or.inl ⟨by rfl, ?_⟩) hS ?_
          rotate_left 1
          · intro w' hSw
            go_simp <;> with_reducible rfl
          try simp only [List.getElem_toArray, List.getElem_cons_zero, List.getElem_cons_succ, Act.put, List.setIfInBounds_toArray, List.set_cons_zero, List.set_cons_succ]
          refine wpAnyH_take (i := 2) (v := ?_) rfl (by kernel_rfl) (by kernel_rfl) (by kernel_rfl) (fun _ _ _ h => h) (Or.inl ⟨by rfl, ?_⟩) hS ?_
          rotate_left 1
          · intro w' hSw
            go_simp <;> with_reducible rfl
          try simp only [List.getElem_toArray, List.getElem_cons_zero, List.getElem_cons_succ, Act.put, List.setIfInBounds_toArray, List.set_cons_zero, List.set_cons_succ]
          refine wpAnyH_take (i := 3) (v := ?_) rfl (by kernel_rfl) (by kernel_rfl) (by kernel_rfl) (fun _ _ _ h => h) (Or.inl ⟨by rfl, ?_⟩) hS ?_
          rotate_left 1
          · intro w' hSw
            go_simp <;> with_reducible rfl
          try simp only [List.getElem_toArray, List.getElem_cons_zero, List.getElem_cons_succ, Act.put, List.setIfInBounds_toArray, List.set_cons_zero, List.set_cons_succ]
          refine wpAnyH_take (i := 4) (v := ?_) rfl (by kernel_rfl) (by kernel_rfl) (by kernel_rfl) (fun _ _ _ h => h) (Or.inl ⟨by rfl, ?_⟩) hS ?_
          rotate_left 1
          · intro w' hSw
            go_simp <;> with_reducible rfl
          try simp only [List.getElem_toArray, List.getElem_cons_zero, List.getElem_cons_succ, Act.put, List.setIfInBounds_toArray, List.set_cons_zero, List.set_cons_succ]
          refine wpAnyH_take (i := 5) (v := ?_) rfl (by kernel_rfl) (by kernel_rfl) (by kernel_rfl) (fun _ _ _ h => h) (Or.inl ⟨by rfl, ?_⟩) hS ?_
          rotate_left 1
          · intro w' hSw
            go_simp <;> with_reducible rfl
          try simp only [List.getElem_toArray, List.getElem_cons_zero, List.getElem_cons_succ, Act.put, List.setIfInBounds_toArray, List.set_cons_zero, List.set_cons_succ]
          refine wpAnyH_take (i := 6) (v := ?_) rfl (by kernel_rfl) (by kernel_rfl) (by kernel_rfl) (fun _ _ _ h => h) (Or.inl ⟨by rfl, ?_⟩) hS ?_
          rotate_left 1
          · intro w' hSw
            go_simp <;> with_reducible rfl
          try simp only [List.getElem_toArray, List.getElem_cons_zero, List.getElem_cons_succ, Act.put, List.setIfInBounds_toArray, List.set_cons_zero, List.set_cons_succ]
          refine wpAnyH_ready (rs := [7]) (by kernel_rfl) (by simp) (AllReadyH.cons rfl (fun K hK => ?_) AllReadyH.nil)
          go_simp
          refine (markI_call k j t _ (by omega) (by omega) (by omega) (by omega) ht).mono ?_
          rintro _ w2 ⟨rfl, hb2⟩
          have hbx : Below wr.heap.size wr w2 := ((Below.refl wr.heap.size wr).drew).trans hb2
          go_simp
          refine hK _ _ (keepS _ hbx) (fun hS => ?_)
          clear hK K
          have HP := Lib.hid ((hP.below hbx).step mkI_len hS0 hx.out hjl)
          have hcell : ∀ q, q < 8 → (∃ u, w2.cell? ⟨x.b, j * 8 + q, none⟩ = some u) ∧ w2.frozen? ⟨x.b, j * 8 + q, none⟩ = false := fun q hq => (hP.below hbx).cells hx.out (by omega)
          obtain ⟨⟨v0', c0⟩, f0⟩ := hcell 0 (by omega)
          obtain ⟨⟨v1', c1⟩, f1⟩ := hcell 1 (by omega)
          obtain ⟨⟨v2', c2⟩, f2⟩ := hcell 2 (by omega)
          obtain ⟨⟨v3', c3⟩, f3⟩ := hcell 3 (by omega)
          obtain ⟨⟨v4', c4⟩, f4⟩ := hcell 4 (by omega)
          obtain ⟨⟨v5', c5⟩, f5⟩ := hcell 5 (by omega)
          obtain ⟨⟨v6', c6⟩, f6⟩ := hcell 6 (by omega)
          obtain ⟨⟨v7', c7⟩, f7⟩ := hcell 7 (by omega)
          simp only [Nat.add_zero] at c0 f0
          clear hcell hP hb2 co keepS
          try simp only [List.getElem_toArray, List.getElem_cons_zero, List.getElem_cons_succ, Act.put, List.setIfInBounds_toArray, List.set_cons_zero, List.set_cons_succ]
          refine wpAnyH_take (i := 8) (v := ?_) rfl (by kernel_rfl) (by kernel_rfl) (by kernel_rfl) (fun _ _ _ h => h) (Or.inl ⟨by rfl, ?_⟩) hS ?_
          rotate_left 1
          · intro w' hSw
            go_simp <;> with_reducible rfl
          try simp only [List.getElem_toArray, List.getElem_cons_zero, List.getElem_cons_succ, Act.put, List.setIfInBounds_toArray, List.set_cons_zero, List.set_cons_succ]
          refine wpAnyH_ready (rs := [9]) (by kernel_rfl) (by simp) (AllReadyH.cons rfl (fun K hK => ?_) AllReadyH.nil)
          go_simp
          refine hK _ _ ?hs (fun hS => ?_)
          rotate_left 1
          clear hK K
          try simp only [List.getElem_toArray, List.getElem_cons_zero, List.getElem_cons_succ, Act.put, List.setIfInBounds_toArray, List.set_cons_zero, List.set_cons_succ]
          refine wpAnyH_done (by kernel_rfl) ?_ _
          go_wp2_with fail
          go_roundw
          case rel => exact ⟨j + 1, by omega, by go_num, by have h9 := HP.out; simp only [sets, mkI, ivV, markV, iv0, ← ht.out] at h9; exact h9⟩
          case measure => simp [intOf]; omega
          exact (World.cell?_of_block (by rw [add_blk]; iterate 8 rw [Below.heap_setCell _ _ _ _ hob])).trans hS
        · have d2 : decide ((j : Int) < (x.n : Int)) = false := decide_eq_false (by omega)
          obtain rfl : j = x.n := by omega
          have HP := Lib.hid (hP.next hx.out)
          clear hP
          go_wp2_with fail
          go_roundw
          case rel => exact ⟨k + 1, by omega, by go_num, HP.out⟩
          case measure => simp [intOf]; omega
    · have d1 : decide ((k : Int) < (ls.length : Int)) = false := decide_eq_false (by omega)
      obtain rfl : k = ls.length := by omega
      obtain ⟨hF, hag⟩ := hP.done
      clear hP
      obtain ⟨wg, rfl⟩ : ∃ wg : World, wg = wr := ⟨_, rfl⟩
      go_wp2_with (at_make; refine wpList_make_full _ rfl _ _ 31 rfl wg.heap.size 23 j0 (.slice none 0 0) 1 Tryz.underlying31 hj hj0 hj1 _ _ _ _ ls.length rfl rfl (by omega) (by omega) (by rw [hj2]; omega) (by unfold maxLen; omega) (Nat.le_refl _) ?_; intro w1 hown1 hgrow1)
      have hb1 : Below wg.heap.size wg w1 := (Below.refl _ _).grown hgrow1 (Nat.le_refl _) (by simp)
      have hP := Ph2.start (X := fun k x => mks mkI k (x.n + 64)) (hF.below hb1) (hag.trans (Ag.of_below _ hb1)) (by have := hown1.1; simpa using this) (own_all hown1 (Nat.le_refl _))
      have hGw : w.heap.size ≤ wg.heap.size := hag.size
      clear hF hag hown1 hgrow1 hb1
      go_loopw [6] (fun i wr => ∃ k : Nat, k ≤ ls.length ∧ i = .int .i64 k ∧ Ph2 mkI 40 8 S ls 23 (fun k x => mks mkI k (x.n + 64)) w wg.heap.size k wr) (fun i _ => ls.length - (intOf i).toNat)
      case atStart => exact ⟨0, Nat.zero_le _, rfl, hP⟩
      case round =>
        clear hP hk
        obtain ⟨k, hk, rfl, hP⟩ := hrel
        by_cases hlt : k < ls.length
        · have d1 : decide ((k : Int) < (ls.length : Int)) = true := decide_eq_true (by omega)
          obtain ⟨a, x, A', c', rfl, hx, co, n1, n2, n3, hv⟩ := hP.list ho hlt
          have hxl : x.n ≤ 1000000 := hl x (List.mem_of_getElem? hx.out)
          have hcl : ls.length ≤ c := ho.le
          have hI := Inn.start hP.1 hx.out
          rw [mksOf_at hx.out, hv.out] at hI
          have hFo := hP.1
          clear n3
          go_wp2_with fail
          obtain ⟨wo, rfl⟩ : ∃ wo : World, wo = wr := ⟨_, rfl⟩
          go_loopw [7, 8] (fun g i wr => ∃ (j gb : Nat), j ≤ 64 ∧ i = .int .i64 j ∧ Inn wo wr 40 8 x g gb j (mks mkI k (x.n + j)) ∧ Fl wr 40 8 S ls (mksOf mkI ls)) (fun _ i _ => 64 - (intOf i).toNat)
          case atStart => exact ⟨0, x.b, Nat.zero_le _, rfl, hI, hFo⟩
          case round =>
            clear hI co
            obtain ⟨j, gb, hj, rfl, hI, hF⟩ := hrel
            by_cases hjl : j < 64
            · have d2 : decide ((j : Int) < 64) = true := decide_eq_true (by omega)
              have co : wr.cell? (a.add k) = some (.slice A' x.n c') := by
                obtain ⟨a', x', e1, e2, e3⟩ := ho.at_ (hP.2.1.trans (hI.ag.mono (fun b _ hb ⟨q1, q2⟩ => hb (by rw [q1]; exact (hFo.own k x hx.out q2).1)))) hlt
                injection e1 with e1
                have : x' = x := by have := e2.out.symm.trans hx.out; injection this
                subst this
                rw [e1, e3, hv.out]
              obtain ⟨t, ht⟩ : ∃ t : Int, Hid (t = 1000003 * ((k : Int) + 7) + ((x.n : Int) + (j : Int))) := ⟨_, Lib.hid rfl⟩
              have HE : Hid (mkI k (x.n + j) = [.int .u8 0, .bool false, .int .i64 0, .int .i64 0, .bool false, .int .i64 t, .int .i64 0, .int .i64 0]) := Lib.hid (by rw [ht.out]; simp [mkI, ivV, markV, iv0])
              go_wp2_with fail
              refine (markI_call k ((x.n : Int) + j) t _ (by omega) (by omega) (by omega) (by omega) ht).mono ?_
              rintro _ w2 ⟨rfl, hb2⟩
              have hrow2 : ∀ o, Row (w2.alloc o) 40 8 u7 gb (x.n + j) (mks mkI k (x.n + j)) := fun o => hI.row.keep (fun e => (heap_alloc_old w2 o (Nat.lt_of_lt_of_le (hI.lt hF hx.out e) hb2.size)).trans (hb2.block _ (hI.lt hF hx.out e)))
              clear co
              go_wp2_with (at_builtin; refine wpList_append_grew _ rfl (.tmp 57) (.tmp 67) 23 rfl 40 i0 _ 8 _ Tryz.underlying23 hi hz0 hz1 hz2 rfl u7 gb (x.n + j) (mks mkI k (x.n + j)) rfl (hrow2 _) ⟨w2.heap.size, 0, none⟩ 1 1 [.int .u8 0, .bool false, .int .i64 0, .int .i64 0, .bool false, .int .i64 t, .int .i64 0, .int .i64 0] rfl rfl ?c1 ?c2 (by unfold maxLen; omega) (by omega) (by decide) ?_)
              case c1 => exact news_new w2 [.int .u8 0, .bool false, .int .i64 0, .int .i64 0, .bool false, .int .i64 t, .int .i64 0, .int .i64 0] 40
              case c2 => exact ivV_one (markV t)
              intro v' w3 g' hrow3 hg3
              rw [← HE.out, ← mks_succ] at hrow3
              obtain ⟨hI3, hF3⟩ := Inn.step hFo hF hx.out hI (hb2.alloc hb2.size _) hrow3 hg3
              clear hb2 hrow2
              clear hI hF hrow3 hg3
              go_wp2_with fail
              go_roundw
              case rel => exact ⟨j + 1, _, by omega, by go_num, hI3, hF3⟩
              case measure => simp [intOf]; omega
            · have d2 : decide ((j : Int) < 64) = false := decide_eq_false (by omega)
              obtain rfl : j = 64 := by omega
              obtain ⟨⟨gu, cg⟩, fg⟩ := hP.gcell hGw hS hx.out hI
              have HP := Lib.hid (hP.step hGw hS hx.out hI hF rfl rfl)
              obtain ⟨A2, c2, rfl, _, _, hA2⟩ := hI.row.shape
              obtain rfl := hA2 (by omega)
              clear hP hI hF hFo
              go_wp2_with fail
              go_roundw
              case rel => exact ⟨k + 1, by omega, by go_num, HP.out⟩
              case measure => simp [intOf]; omega
        · have d1 : decide ((k : Int) < (ls.length : Int)) = false := decide_eq_false (by omega)
          obtain rfl : k = ls.length := by omega
          go_wp2_with fail
          obtain ⟨wp, rfl⟩ : ∃ wp : World, wp = wr := ⟨_, rfl⟩
          go_loopw [9] (fun i wr => ∃ k : Nat, k ≤ ls.length ∧ i = .int .i64 k ∧ Ph2 mkI 40 8 S ls 23 (fun k x => mks mkI k (x.n + 64)) w wg.heap.size ls.length wr) (fun i _ => ls.length - (intOf i).toNat)
          case atStart => exact ⟨0, Nat.zero_le _, rfl, hP⟩
          case round =>
            clear hP hk
            obtain ⟨k, hk, rfl, hP⟩ := hrel
            by_cases hlt : k < ls.length
            · have d1 : decide ((k : Int) < (ls.length : Int)) = true := decide_eq_true (by omega)
              obtain ⟨a, x, A', c', rfl, hx, co, n1, n2, n3, hv⟩ := hP.list ho hlt
              have hxl : x.n ≤ 1000000 := hl x (List.mem_of_getElem? hx.out)
              have hcl : ls.length ≤ c := ho.le
              have N3 := Lib.hid n3
              clear n3 co
              go_wp2_with fail
              obtain ⟨wo, rfl⟩ : ∃ wo : World, wo = wr := ⟨_, rfl⟩
              go_loopw [10] (fun i wr => ∃ j : Nat, j ≤ x.n + 64 ∧ i = .int .i64 j ∧ Ph2 mkI 40 8 S ls 23 (fun k x => mks mkI k (x.n + 64)) w wg.heap.size ls.length wr) (fun i _ => x.n + 64 - (intOf i).toNat)
              case atStart => exact ⟨0, Nat.zero_le _, rfl, hP⟩
              case round =>
                clear hP
                obtain ⟨j, hj, rfl, hP⟩ := hrel
                obtain ⟨gb, cap, cg, g1, g2, g3, g4⟩ := hP.at_ hlt hx.out
                have co : wr.cell? (a.add k) = some (.slice A' x.n c') := by
                  obtain ⟨a', x', e1, e2, e3⟩ := ho.at_ hP.2.1 hlt
                  injection e1 with e1
                  have : x' = x := by have := e2.out.symm.trans hx.out; injection this
                  subst this
                  rw [e1, e3, hv.out]
                have G3 := Lib.hid g3
                have G4 := Lib.hid g4
                clear g3 g4
                by_cases hjl : j < x.n + 64
                · have d2 : decide ((j : Int) < (x.n : Int) + 64) = true := decide_eq_true (by omega)
                  have i1 : (0 : Int) ≤ (j : Int) := by omega
                  have i2 : (j : Int) < (x.n : Int) + 64 := by omega
                  have k1 : (0 : Int) ≤ (k : Int) := by omega
                  have k2 : (k : Int) < (ls.length : Int) := by omega
                  obtain ⟨t, ht⟩ : ∃ t : Int, Hid (t = 1000003 * ((k : Int) + 7) + (j : Int)) := ⟨_, Lib.hid rfl⟩
                  obtain ⟨g0, g1, g2, g3, g4, g5, g6, g7⟩ := mkI_cells ht (w := wr) (b := gb) (o := j * 8) (fun q hq => by rw [G3.out _ (by omega)]; exact mks_get mkI_len k (x.n + 64) j q hjl hq)
                  by_cases hjx : j < x.n
                  · have d3 : decide (j < x.n) = true := decide_eq_true (by omega)
                    have i3 : (j : Int) < (x.n : Int) := by omega
                    obtain rfl := N3.out (by omega)
                    obtain ⟨l0, l1, l2, l3, l4, l5, l6, l7⟩ := mkI_cells ht (w := wr) (b := x.b) (o := j * 8) (fun q hq => by rw [G4.out _ (by omega)]; exact mks_get mkI_len k x.n j q hjx hq)
                    have keepS : ∀ w', Below wr.heap.size wr w' → ((w'.cell? (a.add k) = some (.slice (some ⟨x.b, 0, none⟩) x.n c') ∧ w'.cell? ⟨wg.heap.size, k, none⟩ = some (.slice (some ⟨gb, 0, none⟩) (x.n + 64) cap) ∧ w'.cell? ⟨gb, j * 8, none⟩ = some (.int .u8 0) ∧ w'.cell? ⟨gb, j * 8 + 1, none⟩ = some (.bool false) ∧ w'.cell? ⟨gb, j * 8 + 2, none⟩ = some (.int .i64 0) ∧ w'.cell? ⟨gb, j * 8 + 3, none⟩ = some (.int .i64 0) ∧ w'.cell? ⟨gb, j * 8 + 4, none⟩ = some (.bool false) ∧ w'.cell? ⟨gb, j * 8 + 5, none⟩ = some (.int .i64 t) ∧ w'.cell? ⟨gb, j * 8 + 6, none⟩ = some (.int .i64 0) ∧ w'.cell? ⟨gb, j * 8 + 7, none⟩ = some (.int .i64 0) ∧ w'.cell? ⟨x.b, j * 8, none⟩ = some (.int .u8 0) ∧ w'.cell? ⟨x.b, j * 8 + 1, none⟩ = some (.bool false) ∧ w'.cell? ⟨x.b, j * 8 + 2, none⟩ = some (.int .i64 0) ∧ w'.cell? ⟨x.b, j * 8 + 3, none⟩ = some (.int .i64 0) ∧ w'.cell? ⟨x.b, j * 8 + 4, none⟩ = some (.bool false) ∧ w'.cell? ⟨x.b, j * 8 + 5, none⟩ = some (.int .i64 t) ∧ w'.cell? ⟨x.b, j * 8 + 6, none⟩ = some (.int .i64 0) ∧ w'.cell? ⟨x.b, j * 8 + 7, none⟩ = some (.int .i64 0)) ∧ Below wr.heap.size wr w') := by
                      intro w' hb'
                      have hkk : ∀ (p : Addr) u, wr.cell? p = some u → w'.cell? p = some u := fun p u hu => (hb'.cell (World.block_lt_of_cell? wr _ hu)).trans hu
                      exact ⟨⟨hkk _ _ co, hkk _ _ cg, hkk _ _ g0, hkk _ _ g1, hkk _ _ g2, hkk _ _ g3, hkk _ _ g4, hkk _ _ g5, hkk _ _ g6, hkk _ _ g7, hkk _ _ l0, hkk _ _ l1, hkk _ _ l2, hkk _ _ l3, hkk _ _ l4, hkk _ _ l5, hkk _ _ l6, hkk _ _ l7⟩, hb'⟩
                    have hmark : ∀ w', Below wr.heap.size wr w' → Calls Tryz.prog 32 #[.int .i64 k, .int .i64 j] w' fun x w2 => x = .returned (.agg #[.int .u8 0, .bool false, .int .i64 0, .int .i64 0, .bool false, .int .i64 t, .int .i64 0, .int .i64 0]) ∧ Below wr.heap.size wr w2 := fun w' h => (markI_call k j t w' (by omega) (by omega) (by omega) (by omega) ht).mono fun x w2 ⟨h1, h2⟩ => ⟨h1, h.trans (h2.mono h.size)⟩
                    go_wp2_with fail
                    refine wp_region_held_drew (S := fun w' => ((w'.cell? (a.add k) = some (.slice (some ⟨x.b, 0, none⟩) x.n c') ∧ w'.cell? ⟨wg.heap.size, k, none⟩ = some (.slice (some ⟨gb, 0, none⟩) (x.n + 64) cap) ∧ w'.cell? ⟨gb, j * 8, none⟩ = some (.int .u8 0) ∧ w'.cell? ⟨gb, j * 8 + 1, none⟩ = some (.bool false) ∧ w'.cell? ⟨gb, j * 8 + 2, none⟩ = some (.int .i64 0) ∧ w'.cell? ⟨gb, j * 8 + 3, none⟩ = some (.int .i64 0) ∧ w'.cell? ⟨gb, j * 8 + 4, none⟩ = some (.bool false) ∧ w'.cell? ⟨gb, j * 8 + 5, none⟩ = some (.int .i64 t) ∧ w'.cell? ⟨gb, j * 8 + 6, none⟩ = some (.int .i64 0) ∧ w'.cell? ⟨gb, j * 8 + 7, none⟩ = some (.int .i64 0) ∧ w'.cell? ⟨x.b, j * 8, none⟩ = some (.int .u8 0) ∧ w'.cell? ⟨x.b, j * 8 + 1, none⟩ = some (.bool false) ∧ w'.cell? ⟨x.b, j * 8 + 2, none⟩ = some (.int .i64 0) ∧ w'.cell? ⟨x.b, j * 8 + 3, none⟩ = some (.int .i64 0) ∧ w'.cell? ⟨x.b, j * 8 + 4, none⟩ = some (.bool false) ∧ w'.cell? ⟨x.b, j * 8 + 5, none⟩ = some (.int .i64 t) ∧ w'.cell? ⟨x.b, j * 8 + 6, none⟩ = some (.int .i64 0) ∧ w'.cell? ⟨x.b, j * 8 + 7, none⟩ = some (.int .i64 0)) ∧ Below wr.heap.size wr w')) (by kernel_rfl) (keepS _ ((Below.refl _ _).drew)) (fun hS => ?_)
                    refine wpAnyH_take (i := 0) (v := ?_) rfl (by kernel_rfl) (by kernel_rfl) (by kernel_rfl) (fun _ _ _ h => h) (Or.inl ⟨by rfl, ?_⟩) hS ?_
                    rotate_left 1
                    · intro w' hSw
                      go_simp <;> with_reducible rfl
                    try simp only [List.getElem_toArray, List.getElem_cons_zero, List.getElem_cons_succ, Act.put, List.setIfInBounds_toArray, List.set_cons_zero, List.set_cons_succ]
                    refine wpAnyH_take (i := 1) (v := ?_) rfl (by kernel_rfl) (by kernel_rfl) (by kernel_rfl) (fun _ _ _ h => h) (Or.inl ⟨by rfl, ?_⟩) hS ?_
                    rotate_left 1
                    · intro w' hSw
                      go_simp <;> with_reducible rfl
                    try simp only [List.getElem_toArray, List.getElem_cons_zero, List.getElem_cons_succ, Act.put, List.setIfInBounds_toArray, List.set_cons_zero, List.set_cons_succ]
                    refine wpAnyH_take (i := 2) (v := ?_) rfl (by kernel_rfl) (by kernel_rfl) (by kernel_rfl) (fun _ _ _ h => h) (Or.inl ⟨by rfl, ?_⟩) hS ?_
                    rotate_left 1
                    · intro w' hSw
                      go_simp <;> with_reducible rfl
                    try simp only [List.getElem_toArray, List.getElem_cons_zero, List.getElem_cons_succ, Act.put, List.setIfInBounds_toArray, List.set_cons_zero, List.set_cons_succ]
                    refine wpAnyH_take (i := 3) (v := ?_) rfl (by kernel_rfl) (by kernel_rfl) (by kernel_rfl) (fun _ _ _ h => h) (Or.inl ⟨by rfl, ?_⟩) hS ?_
                    rotate_left 1
                    · intro w' hSw
                      go_simp <;> with_reducible rfl
                    try simp only [List.getElem_toArray, List.getElem_cons_zero, List.getElem_cons_succ, Act.put, List.setIfInBounds_toArray, List.set_cons_zero, List.set_cons_succ]
                    refine wpAnyH_take (i := 4) (v := ?_) rfl (by kernel_rfl) (by kernel_rfl) (by kernel_rfl) (fun _ _ _ h => h) (Or.inl ⟨by rfl, ?_⟩) hS ?_
                    rotate_left 1
                    · intro w' hSw
                      go_simp <;> with_reducible rfl
                    try simp only [List.getElem_toArray, List.getElem_cons_zero, List.getElem_cons_succ, Act.put, List.setIfInBounds_toArray, List.set_cons_zero, List.set_cons_succ]
                    refine wpAnyH_take (i := 5) (v := ?_) rfl (by kernel_rfl) (by kernel_rfl) (by kernel_rfl) (fun _ _ _ h => h) (Or.inl ⟨by rfl, ?_⟩) hS ?_
                    rotate_left 1
                    · intro w' hSw
                      go_simp <;> with_reducible rfl
                    try simp only [List.getElem_toArray, List.getElem_cons_zero, List.getElem_cons_succ, Act.put, List.setIfInBounds_toArray, List.set_cons_zero, List.set_cons_succ]
                    refine wpAnyH_take (i := 6) (v := ?_) rfl (by kernel_rfl) (by kernel_rfl) (by kernel_rfl) (fun _ _ _ h => h) (Or.inl ⟨by rfl, ?_⟩) hS ?_
                    rotate_left 1
                    · intro w' hSw
                      go_simp <;> with_reducible rfl
                    try simp only [List.getElem_toArray, List.getElem_cons_zero, List.getElem_cons_succ, Act.put, List.setIfInBounds_toArray, List.set_cons_zero, List.set_cons_succ]
                    refine wpAnyH_take (i := 7) (v := ?_) rfl (by kernel_rfl) (by kernel_rfl) (by kernel_rfl) (fun _ _ _ h => h) (Or.inl ⟨by rfl, ?_⟩) hS ?_
                    rotate_left 1
                    · intro w' hSw
                      go_simp <;> with_reducible rfl
                    try simp only [List.getElem_toArray, List.getElem_cons_zero, List.getElem_cons_succ, Act.put, List.setIfInBounds_toArray, List.set_cons_zero, List.set_cons_succ]
                    refine wpAnyH_take (i := 8) (v := ?_) rfl (by kernel_rfl) (by kernel_rfl) (by kernel_rfl) (fun _ _ _ h => h) (Or.inl ⟨by rfl, ?_⟩) hS ?_
                    rotate_left 1
                    · intro w' hSw
                      go_simp <;> with_reducible rfl
                    try simp only [List.getElem_toArray, List.getElem_cons_zero, List.getElem_cons_succ, Act.put, List.setIfInBounds_toArray, List.set_cons_zero, List.set_cons_succ]
                    refine wpAnyH_ready (rs := [9]) (by kernel_rfl) (by simp) (AllReadyH.cons rfl (fun K hK => ?_) AllReadyH.nil)
                    go_simp
                    refine (hmark _ hS.2).mono ?_
                    rintro _ w2 ⟨rfl, hbx⟩
                    go_simp
                    refine hK _ _ (keepS _ hbx) (fun hS => ?_)
                    clear hK K
                    try simp only [List.getElem_toArray, List.getElem_cons_zero, List.getElem_cons_succ, Act.put, List.setIfInBounds_toArray, List.set_cons_zero, List.set_cons_succ]
                    refine wpAnyH_take (i := 10) (v := ?_) rfl (by kernel_rfl) (by kernel_rfl) (by kernel_rfl) (fun _ _ _ h => h) (Or.inl ⟨by rfl, ?_⟩) hS ?_
                    rotate_left 1
                    · intro w' hSw
                      go_simp <;> with_reducible rfl
                    try simp only [List.getElem_toArray, List.getElem_cons_zero, List.getElem_cons_succ, Act.put, List.setIfInBounds_toArray, List.set_cons_zero, List.set_cons_succ]
                    refine wpAnyH_take (i := 11) (v := ?_) rfl (by kernel_rfl) (by kernel_rfl) (by kernel_rfl) (fun _ _ _ h => h) (Or.inl ⟨by rfl, ?_⟩) hS ?_
                    rotate_left 1
                    · intro w' hSw
                      go_simp <;> with_reducible rfl
                    try simp only [List.getElem_toArray, List.getElem_cons_zero, List.getElem_cons_succ, Act.put, List.setIfInBounds_toArray, List.set_cons_zero, List.set_cons_succ]
                    refine wpAnyH_take (i := 12) (v := ?_) rfl (by kernel_rfl) (by kernel_rfl) (by kernel_rfl) (fun _ _ _ h => h) (Or.inl ⟨by rfl, ?_⟩) hS ?_
                    rotate_left 1
                    · intro w' hSw
                      go_simp <;> with_reducible rfl
                    try simp only [List.getElem_toArray, List.getElem_cons_zero, List.getElem_cons_succ, Act.put, List.setIfInBounds_toArray, List.set_cons_zero, List.set_cons_succ]
                    refine wpAnyH_take (i := 13) (v := ?_) rfl (by kernel_rfl) (by kernel_rfl) (by kernel_rfl) (fun _ _ _ h => h) (Or.inl ⟨by go_simp, ?_⟩) hS ?_
                    rotate_left 1
                    · intro w' hSw
                      go_simp <;> with_reducible rfl
                    try simp only [List.getElem_toArray, List.getElem_cons_zero, List.getElem_cons_succ, Act.put, List.setIfInBounds_toArray, List.set_cons_zero, List.set_cons_succ]
                    refine wpAnyH_take (i := 14) (v := ?_) rfl (by kernel_rfl) (by kernel_rfl) (by kernel_rfl) (fun _ _ _ h => h) (Or.inl ⟨by go_simp, ?_⟩) hS ?_
                    rotate_left 1
                    · intro w' hSw
                      go_simp <;> with_reducible rfl
                    try simp only [List.getElem_toArray, List.getElem_cons_zero, List.getElem_cons_succ, Act.put, List.setIfInBounds_toArray, List.set_cons_zero, List.set_cons_succ]
                    refine wpAnyH_take (i := 15) (v := ?_) rfl (by kernel_rfl) (by kernel_rfl) (by kernel_rfl) (fun _ _ _ h => h) (Or.inl ⟨by go_simp, ?_⟩) hS ?_
                    rotate_left 1
                    · intro w' hSw
                      go_simp <;> with_reducible rfl
                    try simp only [List.getElem_toArray, List.getElem_cons_zero, List.getElem_cons_succ, Act.put, List.setIfInBounds_toArray, List.set_cons_zero, List.set_cons_succ]
                    refine wpAnyH_take (i := 16) (v := ?_) rfl (by kernel_rfl) (by kernel_rfl) (by kernel_rfl) (fun _ _ _ h => h) (Or.inl ⟨by go_simp, ?_⟩) hS ?_
                    rotate_left 1
                    · intro w' hSw
                      go_simp <;> with_reducible rfl
                    try simp only [List.getElem_toArray, List.getElem_cons_zero, List.getElem_cons_succ, Act.put, List.setIfInBounds_toArray, List.set_cons_zero, List.set_cons_succ]
                    refine wpAnyH_take (i := 17) (v := ?_) rfl (by kernel_rfl) (by kernel_rfl) (by kernel_rfl) (fun _ _ _ h => h) (Or.inl ⟨by go_simp, ?_⟩) hS ?_
                    rotate_left 1
                    · intro w' hSw
                      go_simp <;> with_reducible rfl
                    try simp only [List.getElem_toArray, List.getElem_cons_zero, List.getElem_cons_succ, Act.put, List.setIfInBounds_toArray, List.set_cons_zero, List.set_cons_succ]
                    refine wpAnyH_take (i := 18) (v := ?_) rfl (by kernel_rfl) (by kernel_rfl) (by kernel_rfl) (fun _ _ _ h => h) (Or.inl ⟨by go_simp, ?_⟩) hS ?_
                    rotate_left 1
                    · intro w' hSw
                      go_simp <;> with_reducible rfl
                    try simp only [List.getElem_toArray, List.getElem_cons_zero, List.getElem_cons_succ, Act.put, List.setIfInBounds_toArray, List.set_cons_zero, List.set_cons_succ]
                    refine wpAnyH_take (i := 19) (v := ?_) rfl (by kernel_rfl) (by kernel_rfl) (by kernel_rfl) (fun _ _ _ h => h) (Or.inl ⟨by go_simp, ?_⟩) hS ?_
                    rotate_left 1
                    · intro w' hSw
                      go_simp <;> with_reducible rfl
                    try simp only [List.getElem_toArray, List.getElem_cons_zero, List.getElem_cons_succ, Act.put, List.setIfInBounds_toArray, List.set_cons_zero, List.set_cons_succ]
                    refine wpAnyH_take (i := 20) (v := ?_) rfl (by kernel_rfl) (by kernel_rfl) (by kernel_rfl) (fun _ _ _ h => h) (Or.inl ⟨by go_simp, ?_⟩) hS ?_
                    rotate_left 1
                    · intro w' hSw
                      go_simp <;> with_reducible rfl
                    try simp only [List.getElem_toArray, List.getElem_cons_zero, List.getElem_cons_succ, Act.put, List.setIfInBounds_toArray, List.set_cons_zero, List.set_cons_succ]
                    refine wpAnyH_take (i := 21) (v := ?_) rfl (by kernel_rfl) (by kernel_rfl) (by kernel_rfl) (fun _ _ _ h => h) (Or.inl ⟨by go_simp, ?_⟩) hS ?_
                    rotate_left 1
                    · intro w' hSw
                      go_simp <;> with_reducible rfl
                    try simp only [List.getElem_toArray, List.getElem_cons_zero, List.getElem_cons_succ, Act.put, List.setIfInBounds_toArray, List.set_cons_zero, List.set_cons_succ]
                    refine wpAnyH_take (i := 22) (v := ?_) rfl (by kernel_rfl) (by kernel_rfl) (by kernel_rfl) (fun _ _ _ h => h) (Or.inl ⟨by go_simp, ?_⟩) hS ?_
                    rotate_left 1
                    · intro w' hSw
                      go_simp <;> with_reducible rfl
                    try simp only [List.getElem_toArray, List.getElem_cons_zero, List.getElem_cons_succ, Act.put, List.setIfInBounds_toArray, List.set_cons_zero, List.set_cons_succ]
                    refine wpAnyH_take (i := 23) (v := ?_) rfl (by kernel_rfl) (by kernel_rfl) (by kernel_rfl) (fun _ _ _ h => h) (Or.inl ⟨by go_simp, ?_⟩) hS ?_
                    rotate_left 1
                    · intro w' hSw
                      go_simp <;> with_reducible rfl
                    try simp only [List.getElem_toArray, List.getElem_cons_zero, List.getElem_cons_succ, Act.put, List.setIfInBounds_toArray, List.set_cons_zero, List.set_cons_succ]
                    refine wpAnyH_take (i := 24) (v := ?_) rfl (by kernel_rfl) (by kernel_rfl) (by kernel_rfl) (fun _ _ _ h => h) (Or.inl ⟨by go_simp, ?_⟩) hS ?_
                    rotate_left 1
                    · intro w' hSw
                      go_simp <;> with_reducible rfl
                    try simp only [List.getElem_toArray, List.getElem_cons_zero, List.getElem_cons_succ, Act.put, List.setIfInBounds_toArray, List.set_cons_zero, List.set_cons_succ]
                    refine wpAnyH_take (i := 25) (v := ?_) rfl (by kernel_rfl) (by kernel_rfl) (by kernel_rfl) (fun _ _ _ h => h) (Or.inl ⟨by go_simp, ?_⟩) hS ?_
                    rotate_left 1
                    · intro w' hSw
                      go_simp <;> with_reducible rfl
                    try simp only [List.getElem_toArray, List.getElem_cons_zero, List.getElem_cons_succ, Act.put, List.setIfInBounds_toArray, List.set_cons_zero, List.set_cons_succ]
                    refine wpAnyH_take (i := 26) (v := ?_) rfl (by kernel_rfl) (by kernel_rfl) (by kernel_rfl) (fun _ _ _ h => h) (Or.inl ⟨by go_simp, ?_⟩) hS ?_
                    rotate_left 1
                    · intro w' hSw
                      go_simp <;> with_reducible rfl
                    try simp only [List.getElem_toArray, List.getElem_cons_zero, List.getElem_cons_succ, Act.put, List.setIfInBounds_toArray, List.set_cons_zero, List.set_cons_succ]
                    refine wpAnyH_take (i := 27) (v := ?_) rfl (by kernel_rfl) (by kernel_rfl) (by kernel_rfl) (fun _ _ _ h => h) (Or.inl ⟨by go_simp, ?_⟩) hS ?_
                    rotate_left 1
                    · intro w' hSw
                      go_simp <;> with_reducible rfl
                    try simp only [List.getElem_toArray, List.getElem_cons_zero, List.getElem_cons_succ, Act.put, List.setIfInBounds_toArray, List.set_cons_zero, List.set_cons_succ]
                    refine wpAnyH_take (i := 28) (v := ?_) rfl (by kernel_rfl) (by kernel_rfl) (by kernel_rfl) (fun _ _ _ h => h) (Or.inl ⟨by go_simp, ?_⟩) hS ?_
                    rotate_left 1
                    · intro w' hSw
                      go_simp <;> with_reducible rfl
                    try simp only [List.getElem_toArray, List.getElem_cons_zero, List.getElem_cons_succ, Act.put, List.setIfInBounds_toArray, List.set_cons_zero, List.set_cons_succ]
                    refine wpAnyH_take (i := 29) (v := ?_) rfl (by kernel_rfl) (by kernel_rfl) (by kernel_rfl) (fun _ _ _ h => h) (Or.inl ⟨by go_simp, ?_⟩) hS ?_
                    rotate_left 1
                    · intro w' hSw
                      go_simp <;> with_reducible rfl
                    try simp only [List.getElem_toArray, List.getElem_cons_zero, List.getElem_cons_succ, Act.put, List.setIfInBounds_toArray, List.set_cons_zero, List.set_cons_succ]
                    refine wpAnyH_ready (rs := [30]) (by kernel_rfl) (by simp) (AllReadyH.cons rfl (fun K hK => ?_) AllReadyH.nil)
                    go_simp
                    refine (hmark _ hS.2).mono ?_
                    rintro _ w4 ⟨rfl, hbx⟩
                    go_simp
                    refine hK _ _ (keepS _ hbx) (fun hS => ?_)
                    clear hK K
                    try simp only [List.getElem_toArray, List.getElem_cons_zero, List.getElem_cons_succ, Act.put, List.setIfInBounds_toArray, List.set_cons_zero, List.set_cons_succ]
                    refine wpAnyH_take (i := 31) (v := ?_) rfl (by kernel_rfl) (by kernel_rfl) (by kernel_rfl) (fun _ _ _ h => h) (Or.inl ⟨by go_simp, ?_⟩) hS ?_
                    rotate_left 1
                    · intro w' hSw
                      go_simp <;> with_reducible rfl
                    try simp only [List.getElem_toArray, List.getElem_cons_zero, List.getElem_cons_succ, Act.put, List.setIfInBounds_toArray, List.set_cons_zero, List.set_cons_succ]
                    refine wpAnyH_take (i := 32) (v := ?_) rfl (by kernel_rfl) (by kernel_rfl) (by kernel_rfl) (fun _ _ _ h => h) (Or.inl ⟨by go_simp, ?_⟩) hS ?_
                    rotate_left 1
                    · intro w' hSw
                      go_simp <;> with_reducible rfl
                    try simp only [List.getElem_toArray, List.getElem_cons_zero, List.getElem_cons_succ, Act.put, List.setIfInBounds_toArray, List.set_cons_zero, List.set_cons_succ]
                    refine wpAnyH_take (i := 33) (v := ?_) rfl (by kernel_rfl) (by kernel_rfl) (by kernel_rfl) (fun _ _ _ h => h) (Or.inl ⟨by go_simp, ?_⟩) hS ?_
                    rotate_left 1
                    · intro w' hSw
                      go_simp <;> with_reducible rfl
                    try simp only [List.getElem_toArray, List.getElem_cons_zero, List.getElem_cons_succ, Act.put, List.setIfInBounds_toArray, List.set_cons_zero, List.set_cons_succ]
                    refine wpAnyH_take (i := 34) (v := ?_) rfl (by kernel_rfl) (by kernel_rfl) (by kernel_rfl) (fun _ _ _ h => h) (Or.inl ⟨by rfl, ?_⟩) hS ?_
                    rotate_left 1
                    · intro w' hSw
                      go_simp <;> with_reducible rfl
                    try simp only [List.getElem_toArray, List.getElem_cons_zero, List.getElem_cons_succ, Act.put, List.setIfInBounds_toArray, List.set_cons_zero, List.set_cons_succ]
                    refine wpAnyH_done (by kernel_rfl) ?_ _
                    clear keepS hmark co cg g0 g1 g2 g3 g4 g5 g6 g7 l0 l1 l2 l3 l4 l5 l6 l7 hS
                    go_wp2_with fail
                    go_roundw
                    case rel => exact ⟨j + 1, by omega, by go_num, hP.below hbx⟩
                    case measure => simp [intOf]; omega
                  · have d3 : decide (j < x.n) = false := decide_eq_false (by omega)
                    have keepS : ∀ w', Below wr.heap.size wr w' → ((w'.cell? (a.add k) = some (.slice A' x.n c') ∧ w'.cell? ⟨wg.heap.size, k, none⟩ = some (.slice (some ⟨gb, 0, none⟩) (x.n + 64) cap) ∧ w'.cell? ⟨gb, j * 8, none⟩ = some (.int .u8 0) ∧ w'.cell? ⟨gb, j * 8 + 1, none⟩ = some (.bool false) ∧ w'.cell? ⟨gb, j * 8 + 2, none⟩ = some (.int .i64 0) ∧ w'.cell? ⟨gb, j * 8 + 3, none⟩ = some (.int .i64 0) ∧ w'.cell? ⟨gb, j * 8 + 4, none⟩ = some (.bool false) ∧ w'.cell? ⟨gb, j * 8 + 5, none⟩ = some (.int .i64 t) ∧ w'.cell? ⟨gb, j * 8 + 6, none⟩ = some (.int .i64 0) ∧ w'.cell? ⟨gb, j * 8 + 7, none⟩ = some (.int .i64 0)) ∧ Below wr.heap.size wr w') := by
                      intro w' hb'
                      have hkk : ∀ (p : Addr) u, wr.cell? p = some u → w'.cell? p = some u := fun p u hu => (hb'.cell (World.block_lt_of_cell? wr _ hu)).trans hu
                      exact ⟨⟨hkk _ _ co, hkk _ _ cg, hkk _ _ g0, hkk _ _ g1, hkk _ _ g2, hkk _ _ g3, hkk _ _ g4, hkk _ _ g5, hkk _ _ g6, hkk _ _ g7⟩, hb'⟩
                    have hmark : ∀ w', Below wr.heap.size wr w' → Calls Tryz.prog 32 #[.int .i64 k, .int .i64 j] w' fun x w2 => x = .returned (.agg #[.int .u8 0, .bool false, .int .i64 0, .int .i64 0, .bool false, .int .i64 t, .int .i64 0, .int .i64 0]) ∧ Below wr.heap.size wr w2 := fun w' h => (markI_call k j t w' (by omega) (by omega) (by omega) (by omega) ht).mono fun x w2 ⟨h1, h2⟩ => ⟨h1, h.trans (h2.mono h.size)⟩
                    go_wp2_with fail
                    refine wp_region_held_drew (S := fun w' => ((w'.cell? (a.add k) = some (.slice A' x.n c') ∧ w'.cell? ⟨wg.heap.size, k, none⟩ = some (.slice (some ⟨gb, 0, none⟩) (x.n + 64) cap) ∧ w'.cell? ⟨gb, j * 8, none⟩ = some (.int .u8 0) ∧ w'.cell? ⟨gb, j * 8 + 1, none⟩ = some (.bool false) ∧ w'.cell? ⟨gb, j * 8 + 2, none⟩ = some (.int .i64 0) ∧ w'.cell? ⟨gb, j * 8 + 3, none⟩ = some (.int .i64 0) ∧ w'.cell? ⟨gb, j * 8 + 4, none⟩ = some (.bool false) ∧ w'.cell? ⟨gb, j * 8 + 5, none⟩ = some (.int .i64 t) ∧ w'.cell? ⟨gb, j * 8 + 6, none⟩ = some (.int .i64 0) ∧ w'.cell? ⟨gb, j * 8 + 7, none⟩ = some (.int .i64 0)) ∧ Below wr.heap.size wr w')) (by kernel_rfl) (keepS _ ((Below.refl _ _).drew)) (fun hS => ?_)
                    refine wpAnyH_take (i := 0) (v := ?_) rfl (by kernel_rfl) (by kernel_rfl) (by kernel_rfl) (fun _ _ _ h => h) (Or.inl ⟨by rfl, ?_⟩) hS ?_
                    rotate_left 1
                    · intro w' hSw
                      go_simp <;> with_reducible rfl
                    try simp only [List.getElem_toArray, List.getElem_cons_zero, List.getElem_cons_succ, Act.put, List.setIfInBounds_toArray, List.set_cons_zero, List.set_cons_succ]
                    refine wpAnyH_take (i := 1) (v := ?_) rfl (by kernel_rfl) (by kernel_rfl) (by kernel_rfl) (fun _ _ _ h => h) (Or.inl ⟨by rfl, ?_⟩) hS ?_
                    rotate_left 1
                    · intro w' hSw
                      go_simp <;> with_reducible rfl
                    try simp only [List.getElem_toArray, List.getElem_cons_zero, List.getElem_cons_succ, Act.put, List.setIfInBounds_toArray, List.set_cons_zero, List.set_cons_succ]
                    refine wpAnyH_take (i := 2) (v := ?_) rfl (by kernel_rfl) (by kernel_rfl) (by kernel_rfl) (fun _ _ _ h => h) (Or.inl ⟨by rfl, ?_⟩) hS ?_
                    rotate_left 1
                    · intro w' hSw
                      go_simp <;> with_reducible rfl
                    try simp only [List.getElem_toArray, List.getElem_cons_zero, List.getElem_cons_succ, Act.put, List.setIfInBounds_toArray, List.set_cons_zero, List.set_cons_succ]
                    refine wpAnyH_take (i := 3) (v := ?_) rfl (by kernel_rfl) (by kernel_rfl) (by kernel_rfl) (fun _ _ _ h => h) (Or.inl ⟨by rfl, ?_⟩) hS ?_
                    rotate_left 1
                    · intro w' hSw
                      go_simp <;> with_reducible rfl
                    try simp only [List.getElem_toArray, List.getElem_cons_zero, List.getElem_cons_succ, Act.put, List.setIfInBounds_toArray, List.set_cons_zero, List.set_cons_succ]
                    refine wpAnyH_take (i := 4) (v := ?_) rfl (by kernel_rfl) (by kernel_rfl) (by kernel_rfl) (fun _ _ _ h => h) (Or.inl ⟨by rfl, ?_⟩) hS ?_
                    rotate_left 1
                    · intro w' hSw
                      go_simp <;> with_reducible rfl
                    try simp only [List.getElem_toArray, List.getElem_cons_zero, List.getElem_cons_succ, Act.put, List.setIfInBounds_toArray, List.set_cons_zero, List.set_cons_succ]
                    refine wpAnyH_take (i := 5) (v := ?_) rfl (by kernel_rfl) (by kernel_rfl) (by kernel_rfl) (fun _ _ _ h => h) (Or.inl ⟨by rfl, ?_⟩) hS ?_
                    rotate_left 1
                    · intro w' hSw
                      go_simp <;> with_reducible rfl
                    try simp only [List.getElem_toArray, List.getElem_cons_zero, List.getElem_cons_succ, Act.put, List.setIfInBounds_toArray, List.set_cons_zero, List.set_cons_succ]
                    refine wpAnyH_take (i := 6) (v := ?_) rfl (by kernel_rfl) (by kernel_rfl) (by kernel_rfl) (fun _ _ _ h => h) (Or.inl ⟨by rfl, ?_⟩) hS ?_
                    rotate_left 1
                    · intro w' hSw
                      go_simp <;> with_reducible rfl
                    try simp only [List.getElem_toArray, List.getElem_cons_zero, List.getElem_cons_succ, Act.put, List.setIfInBounds_toArray, List.set_cons_zero, List.set_cons_succ]
                    refine wpAnyH_take (i := 7) (v := ?_) rfl (by kernel_rfl) (by kernel_rfl) (by kernel_rfl) (fun _ _ _ h => h) (Or.inl ⟨by rfl, ?_⟩) hS ?_
                    rotate_left 1
                    · intro w' hSw
                      go_simp <;> with_reducible rfl
                    try simp only [List.getElem_toArray, List.getElem_cons_zero, List.getElem_cons_succ, Act.put, List.setIfInBounds_toArray, List.set_cons_zero, List.set_cons_succ]
                    refine wpAnyH_take (i := 8) (v := ?_) rfl (by kernel_rfl) (by kernel_rfl) (by kernel_rfl) (fun _ _ _ h => h) (Or.inl ⟨by rfl, ?_⟩) hS ?_
                    rotate_left 1
                    · intro w' hSw
                      go_simp <;> with_reducible rfl
                    try simp only [List.getElem_toArray, List.getElem_cons_zero, List.getElem_cons_succ, Act.put, List.setIfInBounds_toArray, List.set_cons_zero, List.set_cons_succ]
                    refine wpAnyH_ready (rs := [9]) (by kernel_rfl) (by simp) (AllReadyH.cons rfl (fun K hK => ?_) AllReadyH.nil)
                    go_simp
                    refine (hmark _ hS.2).mono ?_
                    rintro _ w2 ⟨rfl, hbx⟩
                    go_simp
                    refine hK _ _ (keepS _ hbx) (fun hS => ?_)
                    clear hK K
                    try simp only [List.getElem_toArray, List.getElem_cons_zero, List.getElem_cons_succ, Act.put, List.setIfInBounds_toArray, List.set_cons_zero, List.set_cons_succ]
                    refine wpAnyH_take (i := 10) (v := ?_) rfl (by kernel_rfl) (by kernel_rfl) (by kernel_rfl) (fun _ _ _ h => h) (Or.inl ⟨by rfl, ?_⟩) hS ?_
                    rotate_left 1
                    · intro w' hSw
                      go_simp <;> with_reducible rfl
                    try simp only [List.getElem_toArray, List.getElem_cons_zero, List.getElem_cons_succ, Act.put, List.setIfInBounds_toArray, List.set_cons_zero, List.set_cons_succ]
                    refine wpAnyH_take (i := 11) (v := ?_) rfl (by kernel_rfl) (by kernel_rfl) (by kernel_rfl) (fun _ _ _ h => h) (Or.inl ⟨by rfl, ?_⟩) hS ?_
                    rotate_left 1
                    · intro w' hSw
                      go_simp <;> with_reducible rfl
                    try simp only [List.getElem_toArray, List.getElem_cons_zero, List.getElem_cons_succ, Act.put, List.setIfInBounds_toArray, List.set_cons_zero, List.set_cons_succ]
                    refine wpAnyH_take (i := 12) (v := ?_) rfl (by kernel_rfl) (by kernel_rfl) (by kernel_rfl) (fun _ _ _ h => h) (Or.inl ⟨by rfl, ?_⟩) hS ?_
                    rotate_left 1
                    · intro w' hSw
                      go_simp <;> with_reducible rfl
                    try simp only [List.getElem_toArray, List.getElem_cons_zero, List.getElem_cons_succ, Act.put, List.setIfInBounds_toArray, List.set_cons_zero, List.set_cons_succ]
                    refine wpAnyH_take (i := 13) (v := ?_) rfl (by kernel_rfl) (by kernel_rfl) (by kernel_rfl) (fun _ _ _ h => h) (Or.inl ⟨by go_simp, ?_⟩) hS ?_
                    rotate_left 1
                    · intro w' hSw
                      go_simp <;> with_reducible rfl
                    try simp only [List.getElem_toArray, List.getElem_cons_zero, List.getElem_cons_succ, Act.put, List.setIfInBounds_toArray, List.set_cons_zero, List.set_cons_succ]
                    refine wpAnyH_take (i := 14) (v := ?_) rfl (by kernel_rfl) (by kernel_rfl) (by kernel_rfl) (fun _ _ _ h => h) (Or.inl ⟨by go_simp, ?_⟩) hS ?_
                    rotate_left 1
                    · intro w' hSw
                      go_simp <;> with_reducible rfl
                    try simp only [List.getElem_toArray, List.getElem_cons_zero, List.getElem_cons_succ, Act.put, List.setIfInBounds_toArray, List.set_cons_zero, List.set_cons_succ]
                    refine wpAnyH_take (i := 15) (v := ?_) rfl (by kernel_rfl) (by kernel_rfl) (by kernel_rfl) (fun _ _ _ h => h) (Or.inl ⟨by go_simp, ?_⟩) hS ?_
                    rotate_left 1
                    · intro w' hSw
                      go_simp <;> with_reducible rfl
                    try simp only [List.getElem_toArray, List.getElem_cons_zero, List.getElem_cons_succ, Act.put, List.setIfInBounds_toArray, List.set_cons_zero, List.set_cons_succ]
                    refine wpAnyH_take (i := 16) (v := ?_) rfl (by kernel_rfl) (by kernel_rfl) (by kernel_rfl) (fun _ _ _ h => h) (Or.inl ⟨by go_simp, ?_⟩) hS ?_
                    rotate_left 1
                    · intro w' hSw
                      go_simp <;> with_reducible rfl
                    try simp only [List.getElem_toArray, List.getElem_cons_zero, List.getElem_cons_succ, Act.put, List.setIfInBounds_toArray, List.set_cons_zero, List.set_cons_succ]
                    refine wpAnyH_take (i := 17) (v := ?_) rfl (by kernel_rfl) (by kernel_rfl) (by kernel_rfl) (fun _ _ _ h => h) (Or.inl ⟨by go_simp, ?_⟩) hS ?_
                    rotate_left 1
                    · intro w' hSw
                      go_simp <;> with_reducible rfl
                    try simp only [List.getElem_toArray, List.getElem_cons_zero, List.getElem_cons_succ, Act.put, List.setIfInBounds_toArray, List.set_cons_zero, List.set_cons_succ]
                    refine wpAnyH_take (i := 18) (v := ?_) rfl (by kernel_rfl) (by kernel_rfl) (by kernel_rfl) (fun _ _ _ h => h) (Or.inl ⟨by go_simp, ?_⟩) hS ?_
                    rotate_left 1
                    · intro w' hSw
                      go_simp <;> with_reducible rfl
                    try simp only [List.getElem_toArray, List.getElem_cons_zero, List.getElem_cons_succ, Act.put, List.setIfInBounds_toArray, List.set_cons_zero, List.set_cons_succ]
                    refine wpAnyH_take (i := 19) (v := ?_) rfl (by kernel_rfl) (by kernel_rfl) (by kernel_rfl) (fun _ _ _ h => h) (Or.inl ⟨by go_simp, ?_⟩) hS ?_
                    rotate_left 1
                    · intro w' hSw
                      go_simp <;> with_reducible rfl
                    try simp only [List.getElem_toArray, List.getElem_cons_zero, List.getElem_cons_succ, Act.put, List.setIfInBounds_toArray, List.set_cons_zero, List.set_cons_succ]
                    refine wpAnyH_take (i := 20) (v := ?_) rfl (by kernel_rfl) (by kernel_rfl) (by kernel_rfl) (fun _ _ _ h => h) (Or.inl ⟨by go_simp, ?_⟩) hS ?_
                    rotate_left 1
                    · intro w' hSw
                      go_simp <;> with_reducible rfl
                    try simp only [List.getElem_toArray, List.getElem_cons_zero, List.getElem_cons_succ, Act.put, List.setIfInBounds_toArray, List.set_cons_zero, List.set_cons_succ]
                    refine wpAnyH_take (i := 21) (v := undef) rfl (by kernel_rfl) (by kernel_rfl) (by kernel_rfl) (fun _ _ _ h => h) (Or.inr ⟨by go_simp, rfl⟩) hS ?_
                    try simp only [List.getElem_toArray, List.getElem_cons_zero, List.getElem_cons_succ, Act.put, List.setIfInBounds_toArray, List.set_cons_zero, List.set_cons_succ]
                    refine wpAnyH_take (i := 22) (v := undef) rfl (by kernel_rfl) (by kernel_rfl) (by kernel_rfl) (fun _ _ _ h => h) (Or.inr ⟨by go_simp, rfl⟩) hS ?_
                    try simp only [List.getElem_toArray, List.getElem_cons_zero, List.getElem_cons_succ, Act.put, List.setIfInBounds_toArray, List.set_cons_zero, List.set_cons_succ]
                    refine wpAnyH_take (i := 23) (v := undef) rfl (by kernel_rfl) (by kernel_rfl) (by kernel_rfl) (fun _ _ _ h => h) (Or.inr ⟨by go_simp, rfl⟩) hS ?_
                    try simp only [List.getElem_toArray, List.getElem_cons_zero, List.getElem_cons_succ, Act.put, List.setIfInBounds_toArray, List.set_cons_zero, List.set_cons_succ]
                    refine wpAnyH_take (i := 24) (v := undef) rfl (by kernel_rfl) (by kernel_rfl) (by kernel_rfl) (fun _ _ _ h => h) (Or.inr ⟨by go_simp, rfl⟩) hS ?_
                    try simp only [List.getElem_toArray, List.getElem_cons_zero, List.getElem_cons_succ, Act.put, List.setIfInBounds_toArray, List.set_cons_zero, List.set_cons_succ]
                    refine wpAnyH_take (i := 25) (v := undef) rfl (by kernel_rfl) (by kernel_rfl) (by kernel_rfl) (fun _ _ _ h => h) (Or.inr ⟨by go_simp, rfl⟩) hS ?_
                    try simp only [List.getElem_toArray, List.getElem_cons_zero, List.getElem_cons_succ, Act.put, List.setIfInBounds_toArray, List.set_cons_zero, List.set_cons_succ]
                    refine wpAnyH_take (i := 26) (v := undef) rfl (by kernel_rfl) (by kernel_rfl) (by kernel_rfl) (fun _ _ _ h => h) (Or.inr ⟨by go_simp, rfl⟩) hS ?_
                    try simp only [List.getElem_toArray, List.getElem_cons_zero, List.getElem_cons_succ, Act.put, List.setIfInBounds_toArray, List.set_cons_zero, List.set_cons_succ]
                    refine wpAnyH_take (i := 27) (v := undef) rfl (by kernel_rfl) (by kernel_rfl) (by kernel_rfl) (fun _ _ _ h => h) (Or.inr ⟨by go_simp, rfl⟩) hS ?_
                    try simp only [List.getElem_toArray, List.getElem_cons_zero, List.getElem_cons_succ, Act.put, List.setIfInBounds_toArray, List.set_cons_zero, List.set_cons_succ]
                    refine wpAnyH_take (i := 28) (v := undef) rfl (by kernel_rfl) (by kernel_rfl) (by kernel_rfl) (fun _ _ _ h => h) (Or.inr ⟨by go_simp, rfl⟩) hS ?_
                    try simp only [List.getElem_toArray, List.getElem_cons_zero, List.getElem_cons_succ, Act.put, List.setIfInBounds_toArray, List.set_cons_zero, List.set_cons_succ]
                    refine wpAnyH_take (i := 29) (v := undef) rfl (by kernel_rfl) (by kernel_rfl) (by kernel_rfl) (fun _ _ _ h => h) (Or.inr ⟨by go_simp, rfl⟩) hS ?_
                    try simp only [List.getElem_toArray, List.getElem_cons_zero, List.getElem_cons_succ, Act.put, List.setIfInBounds_toArray, List.set_cons_zero, List.set_cons_succ]
                    refine wpAnyH_take (i := 30) (v := undef) rfl (by kernel_rfl) (by kernel_rfl) (by kernel_rfl) (fun _ _ _ h => h) (Or.inr ⟨by go_simp, rfl⟩) hS ?_
                    try simp only [List.getElem_toArray, List.getElem_cons_zero, List.getElem_cons_succ, Act.put, List.setIfInBounds_toArray, List.set_cons_zero, List.set_cons_succ]
                    refine wpAnyH_take (i := 31) (v := undef) rfl (by kernel_rfl) (by kernel_rfl) (by kernel_rfl) (fun _ _ _ h => h) (Or.inr ⟨by go_simp, rfl⟩) hS ?_
                    try simp only [List.getElem_toArray, List.getElem_cons_zero, List.getElem_cons_succ, Act.put, List.setIfInBounds_toArray, List.set_cons_zero, List.set_cons_succ]
                    refine wpAnyH_take (i := 32) (v := undef) rfl (by kernel_rfl) (by kernel_rfl) (by kernel_rfl) (fun _ _ _ h => h) (Or.inr ⟨by go_simp, rfl⟩) hS ?_
                    try simp only [List.getElem_toArray, List.getElem_cons_zero, List.getElem_cons_succ, Act.put, List.setIfInBounds_toArray, List.set_cons_zero, List.set_cons_succ]
                    refine wpAnyH_take (i := 33) (v := ?_) rfl (by kernel_rfl) (by kernel_rfl) (by kernel_rfl) (fun _ _ _ h => h) (Or.inl ⟨by go_simp, ?_⟩) hS ?_
                    rotate_left 1
                    · intro w' hSw
                      go_simp <;> with_reducible rfl
                    try simp only [List.getElem_toArray, List.getElem_cons_zero, List.getElem_cons_succ, Act.put, List.setIfInBounds_toArray, List.set_cons_zero, List.set_cons_succ]
                    refine wpAnyH_take (i := 34) (v := ?_) rfl (by kernel_rfl) (by kernel_rfl) (by kernel_rfl) (fun _ _ _ h => h) (Or.inl ⟨by rfl, ?_⟩) hS ?_
                    rotate_left 1
                    · intro w' hSw
                      go_simp <;> with_reducible rfl
                    try simp only [List.getElem_toArray, List.getElem_cons_zero, List.getElem_cons_succ, Act.put, List.setIfInBounds_toArray, List.set_cons_zero, List.set_cons_succ]
                    refine wpAnyH_done (by kernel_rfl) ?_ _
                    clear keepS hmark co cg g0 g1 g2 g3 g4 g5 g6 g7 hS
                    go_wp2_with fail
                    go_roundw
                    case rel => exact ⟨j + 1, by omega, by go_num, hP.below hbx⟩
                    case measure => simp [intOf]; omega
                · have d2 : decide ((j : Int) < (x.n : Int) + 64) = false := decide_eq_false (by omega)
                  go_wp2_with fail
                  go_roundw
                  case rel => exact ⟨k + 1, by omega, by go_num, hP⟩
                  case measure => simp [intOf]; omega
            · have d1 : decide ((k : Int) < (ls.length : Int)) = false := decide_eq_false (by omega)
              obtain rfl : k = ls.length := by omega
              replace hP := hP.again (X' := fun k x => mks mkI k x.n ++ mks mkI (k + ls.length) 64)
              go_wp2_with fail
              obtain ⟨wq, rfl⟩ : ∃ wq : World, wq = wr := ⟨_, rfl⟩
              go_loopw [11] (fun i wr => ∃ k : Nat, k ≤ ls.length ∧ i = .int .i64 k ∧ Ph2 mkI 40 8 S ls 23 (fun k x => mks mkI k x.n ++ mks mkI (k + ls.length) 64) w wg.heap.size k wr) (fun i _ => ls.length - (intOf i).toNat)
              case atStart => exact ⟨0, Nat.zero_le _, rfl, hP⟩
              case round =>
                clear hP hk
                obtain ⟨k, hk, rfl, hP⟩ := hrel
                by_cases hlt : k < ls.length
                · have d1 : decide ((k : Int) < (ls.length : Int)) = true := decide_eq_true (by omega)
                  go_wp2_with (at_make; refine wpList_make_full _ rfl _ _ 23 rfl wr.heap.size 40 i0 _ 8 Tryz.underlying23 hi hz0 hz1 .i64 .i64 64 64 64 rfl rfl (by omega) (by omega) (by rw [hz2]; omega) (by unfold maxLen; omega) (Nat.le_refl _) ?_; intro w1 hown1 hgrow1)
                  have hb1 : Below wr.heap.size wr w1 := (Below.refl _ _).grown hgrow1 (Nat.le_refl _) (by simp)
                  have hcs := hown1.1
                  have hbk := own_all8 hown1 (Nat.le_refl _)
                  obtain ⟨wm, rfl⟩ : ∃ wm : World, wm = wr := ⟨_, rfl⟩
                  have HC := Lib.hid hcs
                  clear hcs hown1 hgrow1
                  go_loopw [13] (fun i wr => ∃ (j : Nat) (cs : List Value), j ≤ 64 ∧ i = .int .i64 j ∧ Bk wr wm.heap.size 40 cs ∧ Hid (cs.length = 64 * 8) ∧ Hid (cs.take (j * 8) = mks mkI (k + ls.length) j) ∧ Below wm.heap.size wm wr) (fun i _ => 64 - (intOf i).toNat)
                  case atStart => exact ⟨0, _, Nat.zero_le _, rfl, hbk, HC, Lib.hid (by simp [mks]), hb1⟩
                  case round =>
                    clear hb1 hbk HC
                    obtain ⟨j, cs, hj, rfl, hbk, HC, HM, hb⟩ := hrel
                    by_cases hjl : j < 64
                    · have d2 : decide ((j : Int) < 64) = true := decide_eq_true (by omega)
                      have i1 : (0 : Int) ≤ (j : Int) := by omega
                      have i2 : (j : Int) < 64 := by omega
                      obtain ⟨t, ht⟩ : ∃ t : Int, Hid (t = 1000003 * (((k : Int) + (ls.length : Int)) + 7) + (j : Int)) := ⟨_, Lib.hid rfl⟩
                      have HE : Hid (mkI (k + ls.length) j = [.int .u8 0, .bool false, .int .i64 0, .int .i64 0, .bool false, .int .i64 t, .int .i64 0, .int .i64 0]) := Lib.hid (by rw [ht.out]; simp [mkI, ivV, markV, iv0])
                      go_wp2_with fail
                      refine (markI_call ((k : Int) + ls.length) j t _ (by omega) (by omega) (by omega) (by omega) ht).mono ?_
                      rintro _ w2 ⟨rfl, hb2⟩
                      have hbk2 : Bk w2 wm.heap.size 40 cs := (hb2.block _ hbk.lt).trans hbk
                      have hf := frozen_blk hbk2
                      have hcell : ∀ q, q < 8 → ∃ u, w2.cell? ⟨wm.heap.size, j * 8 + q, none⟩ = some u := fun q hq => ⟨_, by rw [hbk2.cell]; exact List.getElem?_eq_getElem (by have := HC.out; omega)⟩
                      obtain ⟨v0', c0⟩ := hcell 0 (by omega)
                      obtain ⟨v1', c1⟩ := hcell 1 (by omega)
                      obtain ⟨v2', c2⟩ := hcell 2 (by omega)
                      obtain ⟨v3', c3⟩ := hcell 3 (by omega)
                      obtain ⟨v4', c4⟩ := hcell 4 (by omega)
                      obtain ⟨v5', c5⟩ := hcell 5 (by omega)
                      obtain ⟨v6', c6⟩ := hcell 6 (by omega)
                      obtain ⟨v7', c7⟩ := hcell 7 (by omega)
                      simp only [Nat.add_zero] at c0
                      have hbw : Below wm.heap.size wm w2 := hb.trans (hb2.mono hb.size)
                      clear hcell hb2 hbk hb
                      go_wp2_with fail
                      go_roundw
                      case rel =>
                        refine ⟨j + 1, setsL cs (j * 8) (mkI (k + ls.length) j), by omega, by go_num, ?_, Lib.hid (by rw [setsL_len, HC.out]), Lib.hid ?_, (((((((hbw.setCell (Nat.le_refl _) _).setCell (Nat.le_refl _) _).setCell (Nat.le_refl _) _).setCell (Nat.le_refl _) _).setCell (Nat.le_refl _) _).setCell (Nat.le_refl _) _).setCell (Nat.le_refl _) _).setCell (Nat.le_refl _) _⟩
                        · rw [HE.out]
                          exact (((((((hbk2.set _ _).set _ _).set _ _).set _ _).set _ _).set _ _).set _ _).set _ _
                        · have h9 := setsL_take (mkI (k + ls.length) j) cs (j * 8) (by rw [mkI_len, HC.out]; omega)
                          rw [mkI_len] at h9
                          rw [mks_succ, ← HM.out, ← h9]
                          congr 1
                          omega
                      case measure => simp [intOf]; omega
                    · have d2 : decide ((j : Int) < 64) = false := decide_eq_false (by omega)
                      obtain rfl : j = 64 := by omega
                      have hcs : cs = mks mkI (k + ls.length) 64 := by rw [← HM.out, List.take_of_length_le (by rw [HC.out]; omega)]
                      subst hcs
                      replace hP := hP.below hb
                      obtain ⟨a, x, A', c', rfl, hx, co, n1, n2, n3, hv⟩ := hP.list ho hlt
                      have hxl : x.n ≤ 1000000 := hl x (List.mem_of_getElem? hx.out)
                      have hcl : ls.length ≤ c := ho.le
                      have hFo := hP.1
                      have hrow := hFo.row k x hx.out
                      rw [mksOf_at hx.out, hv.out] at hrow
                      have hI := Inn.start hP.1 hx.out
                      rw [mksOf_at hx.out, hv.out] at hI
                      have hnews : ∀ j u, (mks mkI (k + ls.length) 64)[j]? = some u → wr.cell? ((⟨wm.heap.size, 0, none⟩ : Addr).add j) = some u := by
                        intro q u hu
                        have hadd : (⟨wm.heap.size, 0, none⟩ : Addr).add q = ⟨wm.heap.size, q, none⟩ := by unfold Addr.add; split <;> simp_all
                        rw [hadd, hbk.cell, hu]
                      have hone : ∀ u ∈ mks mkI (k + ls.length) 64, u.oneCell' = true := by
                        intro u hu
                        simp only [mks, List.mem_flatMap, mkI] at hu
                        obtain ⟨_, _, hu⟩ := hu
                        exact ivV_one _ u hu
                      have HN := Lib.hid hnews
                      have HO := Lib.hid hone
                      clear n3 hnews hone hbk
                      have hwm := hb.size
                      go_wp2_with (at_builtin; refine wpList_append_grew _ rfl (.tmp 148) (.tmp 149) 23 rfl 40 i0 _ 8 _ Tryz.underlying23 hi hz0 hz1 hz2 rfl (.slice A' x.n c') x.b x.n (mks mkI k x.n) rfl hrow ⟨wm.heap.size, 0, none⟩ 64 64 (mks mkI (k + ls.length) 64) rfl ?c0 HN.out HO.out (by unfold maxLen; omega) (by omega) (by decide) ?_)
                      case c0 => rw [mks_len mkI_len]
                      intro v' w3 g' hrow3 hg3
                      obtain ⟨hI3, hF3⟩ := Inn.step hFo hFo hx.out hI (Below.refl _ _) hrow3 hg3
                      obtain ⟨⟨gu, cg⟩, fg⟩ := hP.gcell hGw hS hx.out hI3
                      have HP := Lib.hid (hP.step hGw hS hx.out hI3 hF3 rfl rfl)
                      obtain ⟨A2, c2, rfl, _, _, hA2⟩ := hI3.row.shape
                      obtain rfl := hA2 (by omega)
                      clear hP hI hFo hI3 hF3 hrow hrow3 hg3 co
                      go_wp2_with fail
                      go_roundw
                      case rel => exact ⟨k + 1, by omega, by go_num, HP.out⟩
                      case measure => simp [intOf]; omega
                · have d1 : decide ((k : Int) < (ls.length : Int)) = false := decide_eq_false (by omega)
                  obtain rfl : k = ls.length := by omega
                  go_wp2_with fail
                  obtain ⟨wt, rfl⟩ : ∃ wt : World, wt = wr := ⟨_, rfl⟩
                  go_loopw [14] (fun i wr => ∃ k : Nat, k ≤ ls.length ∧ i = .int .i64 k ∧ Ph2 mkI 40 8 S ls 23 (fun k x => mks mkI k x.n ++ mks mkI (k + ls.length) 64) w wg.heap.size ls.length wr) (fun i _ => ls.length - (intOf i).toNat)
                  case atStart => exact ⟨0, Nat.zero_le _, rfl, hP⟩
                  case round =>
                    clear hP hk
                    obtain ⟨k, hk, rfl, hP⟩ := hrel
                    by_cases hlt : k < ls.length
                    · have d1 : decide ((k : Int) < (ls.length : Int)) = true := decide_eq_true (by omega)
                      obtain ⟨a, x, A', c', rfl, hx, co, n1, n2, n3, hv⟩ := hP.list ho hlt
                      have hxl : x.n ≤ 1000000 := hl x (List.mem_of_getElem? hx.out)
                      have hcl : ls.length ≤ c := ho.le
                      have N3 := Lib.hid n3
                      clear n3 co
                      go_wp2_with fail
                      obtain ⟨wo, rfl⟩ : ∃ wo : World, wo = wr := ⟨_, rfl⟩
                      go_loopw [15] (fun i wr => ∃ j : Nat, j ≤ x.n ∧ i = .int .i64 j ∧ Ph2 mkI 40 8 S ls 23 (fun k x => mks mkI k x.n ++ mks mkI (k + ls.length) 64) w wg.heap.size ls.length wr) (fun i _ => x.n - (intOf i).toNat)
                      case atStart => exact ⟨0, Nat.zero_le _, rfl, hP⟩
                      case round =>
                        clear hP
                        obtain ⟨j, hj, rfl, hP⟩ := hrel
                        obtain ⟨gb, cap, cg, g1, g2, g3, g4⟩ := hP.at_ hlt hx.out
                        have co : wr.cell? (a.add k) = some (.slice A' x.n c') := by
                          obtain ⟨a', x', e1, e2, e3⟩ := ho.at_ hP.2.1 hlt
                          injection e1 with e1
                          have : x' = x := by have := e2.out.symm.trans hx.out; injection this
                          subst this
                          rw [e1, e3, hv.out]
                        have G3 := Lib.hid g3
                        have G4 := Lib.hid g4
                        clear g3 g4
                        by_cases hjl : j < x.n
                        · have d2 : decide ((j : Int) < (x.n : Int)) = true := decide_eq_true (by omega)
                          have i1 : (0 : Int) ≤ (j : Int) := by omega
                          have i2 : (j : Int) < (x.n : Int) := by omega
                          have i3 : (j : Int) < (x.n : Int) + 64 := by omega
                          obtain rfl := N3.out (by omega)
                          have k1 : (0 : Int) ≤ (k : Int) := by omega
                          have k2 : (k : Int) < (ls.length : Int) := by omega
                          obtain ⟨t, ht⟩ : ∃ t : Int, Hid (t = 1000003 * ((k : Int) + 7) + (j : Int)) := ⟨_, Lib.hid rfl⟩
                          obtain ⟨g0, g1, g2, g3, g4, g5, g6, g7⟩ := mkI_cells ht (w := wr) (b := gb) (o := j * 8) (fun q hq => by rw [G3.out _ (by omega), List.getElem?_append_left (by rw [mks_len mkI_len]; omega)]; exact mks_get mkI_len k x.n j q hjl hq)
                          obtain ⟨l0, l1, l2, l3, l4, l5, l6, l7⟩ := mkI_cells ht (w := wr) (b := x.b) (o := j * 8) (fun q hq => by rw [G4.out _ (by omega)]; exact mks_get mkI_len k x.n j q hjl hq)
                          have keepS : ∀ w', Below wr.heap.size wr w' → ((w'.cell? (a.add k) = some (.slice (some ⟨x.b, 0, none⟩) x.n c') ∧ w'.cell? ⟨wg.heap.size, k, none⟩ = some (.slice (some ⟨gb, 0, none⟩) (x.n + 64) cap) ∧ w'.cell? ⟨gb, j * 8, none⟩ = some (.int .u8 0) ∧ w'.cell? ⟨gb, j * 8 + 1, none⟩ = some (.bool false) ∧ w'.cell? ⟨gb, j * 8 + 2, none⟩ = some (.int .i64 0) ∧ w'.cell? ⟨gb, j * 8 + 3, none⟩ = some (.int .i64 0) ∧ w'.cell? ⟨gb, j * 8 + 4, none⟩ = some (.bool false) ∧ w'.cell? ⟨gb, j * 8 + 5, none⟩ = some (.int .i64 t) ∧ w'.cell? ⟨gb, j * 8 + 6, none⟩ = some (.int .i64 0) ∧ w'.cell? ⟨gb, j * 8 + 7, none⟩ = some (.int .i64 0) ∧ w'.cell? ⟨x.b, j * 8, none⟩ = some (.int .u8 0) ∧ w'.cell? ⟨x.b, j * 8 + 1, none⟩ = some (.bool false) ∧ w'.cell? ⟨x.b, j * 8 + 2, none⟩ = some (.int .i64 0) ∧ w'.cell? ⟨x.b, j * 8 + 3, none⟩ = some (.int .i64 0) ∧ w'.cell? ⟨x.b, j * 8 + 4, none⟩ = some (.bool false) ∧ w'.cell? ⟨x.b, j * 8 + 5, none⟩ = some (.int .i64 t) ∧ w'.cell? ⟨x.b, j * 8 + 6, none⟩ = some (.int .i64 0) ∧ w'.cell? ⟨x.b, j * 8 + 7, none⟩ = some (.int .i64 0)) ∧ Below wr.heap.size wr w') := by
                            intro w' hb'
                            have hkk : ∀ (p : Addr) u, wr.cell? p = some u → w'.cell? p = some u := fun p u hu => (hb'.cell (World.block_lt_of_cell? wr _ hu)).trans hu
                            exact ⟨⟨hkk _ _ co, hkk _ _ cg, hkk _ _ g0, hkk _ _ g1, hkk _ _ g2, hkk _ _ g3, hkk _ _ g4, hkk _ _ g5, hkk _ _ g6, hkk _ _ g7, hkk _ _ l0, hkk _ _ l1, hkk _ _ l2, hkk _ _ l3, hkk _ _ l4, hkk _ _ l5, hkk _ _ l6, hkk _ _ l7⟩, hb'⟩
                          have hmark : ∀ w', Below wr.heap.size wr w' → Calls Tryz.prog 32 #[.int .i64 k, .int .i64 j] w' fun x w2 => x = .returned (.agg #[.int .u8 0, .bool false, .int .i64 0, .int .i64 0, .bool false, .int .i64 t, .int .i64 0, .int .i64 0]) ∧ Below wr.heap.size wr w2 := fun w' h => (markI_call k j t w' (by omega) (by omega) (by omega) (by omega) ht).mono fun x w2 ⟨h1, h2⟩ => ⟨h1, h.trans (h2.mono h.size)⟩
                          go_wp2_with fail
                          refine wp_region_held_drew (S := fun w' => ((w'.cell? (a.add k) = some (.slice (some ⟨x.b, 0, none⟩) x.n c') ∧ w'.cell? ⟨wg.heap.size, k, none⟩ = some (.slice (some ⟨gb, 0, none⟩) (x.n + 64) cap) ∧ w'.cell? ⟨gb, j * 8, none⟩ = some (.int .u8 0) ∧ w'.cell? ⟨gb, j * 8 + 1, none⟩ = some (.bool false) ∧ w'.cell? ⟨gb, j * 8 + 2, none⟩ = some (.int .i64 0) ∧ w'.cell? ⟨gb, j * 8 + 3, none⟩ = some (.int .i64 0) ∧ w'.cell? ⟨gb, j * 8 + 4, none⟩ = some (.bool false) ∧ w'.cell? ⟨gb, j * 8 + 5, none⟩ = some (.int .i64 t) ∧ w'.cell? ⟨gb, j * 8 + 6, none⟩ = some (.int .i64 0) ∧ w'.cell? ⟨gb, j * 8 + 7, none⟩ = some (.int .i64 0) ∧ w'.cell? ⟨x.b, j * 8, none⟩ = some (.int .u8 0) ∧ w'.cell? ⟨x.b, j * 8 + 1, none⟩ = some (.bool false) ∧ w'.cell? ⟨x.b, j * 8 + 2, none⟩ = some (.int .i64 0) ∧ w'.cell? ⟨x.b, j * 8 + 3, none⟩ = some (.int .i64 0) ∧ w'.cell? ⟨x.b, j * 8 + 4, none⟩ = some (.bool false) ∧ w'.cell? ⟨x.b, j * 8 + 5, none⟩ = some (.int .i64 t) ∧ w'.cell? ⟨x.b, j * 8 + 6, none⟩ = some (.int .i64 0) ∧ w'.cell? ⟨x.b, j * 8 + 7, none⟩ = some (.int .i64 0)) ∧ Below wr.heap.size wr w')) (by kernel_rfl) (keepS _ ((Below.refl _ _).drew)) (fun hS => ?_)
                          refine wpAnyH_take (i := 0) (v := ?_) rfl (by kernel_rfl) (by kernel_rfl) (by kernel_rfl) (fun _ _ _ h => h) (Or.inl ⟨by rfl, ?_⟩) hS ?_
                          rotate_left 1
                          · intro w' hSw
                            go_simp <;> with_reducible rfl
                          try simp only [List.getElem_toArray, List.getElem_cons_zero, List.getElem_cons_succ, Act.put, List.setIfInBounds_toArray, List.set_cons_zero, List.set_cons_succ]
                          refine wpAnyH_take (i := 1) (v := ?_) rfl (by kernel_rfl) (by kernel_rfl) (by kernel_rfl) (fun _ _ _ h => h) (Or.inl ⟨by rfl, ?_⟩) hS ?_
                          rotate_left 1
                          · intro w' hSw
                            go_simp <;> with_reducible rfl
                          try simp only [List.getElem_toArray, List.getElem_cons_zero, List.getElem_cons_succ, Act.put, List.setIfInBounds_toArray, List.set_cons_zero, List.set_cons_succ]
                          refine wpAnyH_take (i := 2) (v := ?_) rfl (by kernel_rfl) (by kernel_rfl) (by kernel_rfl) (fun _ _ _ h => h) (Or.inl ⟨by rfl, ?_⟩) hS ?_
                          rotate_left 1
                          · intro w' hSw
                            go_simp <;> with_reducible rfl
                          try simp only [List.getElem_toArray, List.getElem_cons_zero, List.getElem_cons_succ, Act.put, List.setIfInBounds_toArray, List.set_cons_zero, List.set_cons_succ]
                          refine wpAnyH_take (i := 3) (v := ?_) rfl (by kernel_rfl) (by kernel_rfl) (by kernel_rfl) (fun _ _ _ h => h) (Or.inl ⟨by rfl, ?_⟩) hS ?_
                          rotate_left 1
                          · intro w' hSw
                            go_simp <;> with_reducible rfl
                          try simp only [List.getElem_toArray, List.getElem_cons_zero, List.getElem_cons_succ, Act.put, List.setIfInBounds_toArray, List.set_cons_zero, List.set_cons_succ]
                          refine wpAnyH_take (i := 4) (v := ?_) rfl (by kernel_rfl) (by kernel_rfl) (by kernel_rfl) (fun _ _ _ h => h) (Or.inl ⟨by rfl, ?_⟩) hS ?_
                          rotate_left 1
                          · intro w' hSw
                            go_simp <;> with_reducible rfl
                          try simp only [List.getElem_toArray, List.getElem_cons_zero, List.getElem_cons_succ, Act.put, List.setIfInBounds_toArray, List.set_cons_zero, List.set_cons_succ]
                          refine wpAnyH_take (i := 5) (v := ?_) rfl (by kernel_rfl) (by kernel_rfl) (by kernel_rfl) (fun _ _ _ h => h) (Or.inl ⟨by rfl, ?_⟩) hS ?_
                          rotate_left 1
                          · intro w' hSw
                            go_simp <;> with_reducible rfl
                          try simp only [List.getElem_toArray, List.getElem_cons_zero, List.getElem_cons_succ, Act.put, List.setIfInBounds_toArray, List.set_cons_zero, List.set_cons_succ]
                          refine wpAnyH_take (i := 6) (v := ?_) rfl (by kernel_rfl) (by kernel_rfl) (by kernel_rfl) (fun _ _ _ h => h) (Or.inl ⟨by rfl, ?_⟩) hS ?_
                          rotate_left 1
                          · intro w' hSw
                            go_simp <;> with_reducible rfl
                          try simp only [List.getElem_toArray, List.getElem_cons_zero, List.getElem_cons_succ, Act.put, List.setIfInBounds_toArray, List.set_cons_zero, List.set_cons_succ]
                          refine wpAnyH_take (i := 7) (v := ?_) rfl (by kernel_rfl) (by kernel_rfl) (by kernel_rfl) (fun _ _ _ h => h) (Or.inl ⟨by rfl, ?_⟩) hS ?_
                          rotate_left 1
                          · intro w' hSw
                            go_simp <;> with_reducible rfl
                          try simp only [List.getElem_toArray, List.getElem_cons_zero, List.getElem_cons_succ, Act.put, List.setIfInBounds_toArray, List.set_cons_zero, List.set_cons_succ]
                          refine wpAnyH_take (i := 8) (v := ?_) rfl (by kernel_rfl) (by kernel_rfl) (by kernel_rfl) (fun _ _ _ h => h) (Or.inl ⟨by rfl, ?_⟩) hS ?_
                          rotate_left 1
                          · intro w' hSw
                            go_simp <;> with_reducible rfl
                          try simp only [List.getElem_toArray, List.getElem_cons_zero, List.getElem_cons_succ, Act.put, List.setIfInBounds_toArray, List.set_cons_zero, List.set_cons_succ]
                          refine wpAnyH_ready (rs := [9]) (by kernel_rfl) (by simp) (AllReadyH.cons rfl (fun K hK => ?_) AllReadyH.nil)
                          go_simp
                          refine (hmark _ hS.2).mono ?_
                          rintro _ w2 ⟨rfl, hbx⟩
                          go_simp
                          refine hK _ _ (keepS _ hbx) (fun hS => ?_)
                          clear hK K
                          try simp only [List.getElem_toArray, List.getElem_cons_zero, List.getElem_cons_succ, Act.put, List.setIfInBounds_toArray, List.set_cons_zero, List.set_cons_succ]
                          refine wpAnyH_take (i := 10) (v := ?_) rfl (by kernel_rfl) (by kernel_rfl) (by kernel_rfl) (fun _ _ _ h => h) (Or.inl ⟨by rfl, ?_⟩) hS ?_
                          rotate_left 1
                          · intro w' hSw
                            go_simp <;> with_reducible rfl
                          try simp only [List.getElem_toArray, List.getElem_cons_zero, List.getElem_cons_succ, Act.put, List.setIfInBounds_toArray, List.set_cons_zero, List.set_cons_succ]
                          refine wpAnyH_take (i := 11) (v := ?_) rfl (by kernel_rfl) (by kernel_rfl) (by kernel_rfl) (fun _ _ _ h => h) (Or.inl ⟨by rfl, ?_⟩) hS ?_
                          rotate_left 1
                          · intro w' hSw
                            go_simp <;> with_reducible rfl
                          try simp only [List.getElem_toArray, List.getElem_cons_zero, List.getElem_cons_succ, Act.put, List.setIfInBounds_toArray, List.set_cons_zero, List.set_cons_succ]
                          refine wpAnyH_take (i := 12) (v := ?_) rfl (by kernel_rfl) (by kernel_rfl) (by kernel_rfl) (fun _ _ _ h => h) (Or.inl ⟨by rfl, ?_⟩) hS ?_
                          rotate_left 1
                          · intro w' hSw
                            go_simp <;> with_reducible rfl
                          try simp only [List.getElem_toArray, List.getElem_cons_zero, List.getElem_cons_succ, Act.put, List.setIfInBounds_toArray, List.set_cons_zero, List.set_cons_succ]
                          refine wpAnyH_take (i := 13) (v := ?_) rfl (by kernel_rfl) (by kernel_rfl) (by kernel_rfl) (fun _ _ _ h => h) (Or.inl ⟨by go_simp, ?_⟩) hS ?_
                          rotate_left 1
                          · intro w' hSw
                            go_simp <;> with_reducible rfl
                          try simp only [List.getElem_toArray, List.getElem_cons_zero, List.getElem_cons_succ, Act.put, List.setIfInBounds_toArray, List.set_cons_zero, List.set_cons_succ]
                          refine wpAnyH_take (i := 14) (v := ?_) rfl (by kernel_rfl) (by kernel_rfl) (by kernel_rfl) (fun _ _ _ h => h) (Or.inl ⟨by go_simp, ?_⟩) hS ?_
                          rotate_left 1
                          · intro w' hSw
                            go_simp <;> with_reducible rfl
                          try simp only [List.getElem_toArray, List.getElem_cons_zero, List.getElem_cons_succ, Act.put, List.setIfInBounds_toArray, List.set_cons_zero, List.set_cons_succ]
                          refine wpAnyH_take (i := 15) (v := ?_) rfl (by kernel_rfl) (by kernel_rfl) (by kernel_rfl) (fun _ _ _ h => h) (Or.inl ⟨by go_simp, ?_⟩) hS ?_
                          rotate_left 1
                          · intro w' hSw
                            go_simp <;> with_reducible rfl
                          try simp only [List.getElem_toArray, List.getElem_cons_zero, List.getElem_cons_succ, Act.put, List.setIfInBounds_toArray, List.set_cons_zero, List.set_cons_succ]
                          refine wpAnyH_take (i := 16) (v := ?_) rfl (by kernel_rfl) (by kernel_rfl) (by kernel_rfl) (fun _ _ _ h => h) (Or.inl ⟨by go_simp, ?_⟩) hS ?_
                          rotate_left 1
                          · intro w' hSw
                            go_simp <;> with_reducible rfl
                          try simp only [List.getElem_toArray, List.getElem_cons_zero, List.getElem_cons_succ, Act.put, List.setIfInBounds_toArray, List.set_cons_zero, List.set_cons_succ]
                          refine wpAnyH_take (i := 17) (v := ?_) rfl (by kernel_rfl) (by kernel_rfl) (by kernel_rfl) (fun _ _ _ h => h) (Or.inl ⟨by go_simp, ?_⟩) hS ?_
                          rotate_left 1
                          · intro w' hSw
                            go_simp <;> with_reducible rfl
                          try simp only [List.getElem_toArray, List.getElem_cons_zero, List.getElem_cons_succ, Act.put, List.setIfInBounds_toArray, List.set_cons_zero, List.set_cons_succ]
                          refine wpAnyH_take (i := 18) (v := ?_) rfl (by kernel_rfl) (by kernel_rfl) (by kernel_rfl) (fun _ _ _ h => h) (Or.inl ⟨by go_simp, ?_⟩) hS ?_
                          rotate_left 1
                          · intro w' hSw
                            go_simp <;> with_reducible rfl
                          try simp only [List.getElem_toArray, List.getElem_cons_zero, List.getElem_cons_succ, Act.put, List.setIfInBounds_toArray, List.set_cons_zero, List.set_cons_succ]
                          refine wpAnyH_take (i := 19) (v := ?_) rfl (by kernel_rfl) (by kernel_rfl) (by kernel_rfl) (fun _ _ _ h => h) (Or.inl ⟨by go_simp, ?_⟩) hS ?_
                          rotate_left 1
                          · intro w' hSw
                            go_simp <;> with_reducible rfl
                          try simp only [List.getElem_toArray, List.getElem_cons_zero, List.getElem_cons_succ, Act.put, List.setIfInBounds_toArray, List.set_cons_zero, List.set_cons_succ]
                          refine wpAnyH_take (i := 20) (v := ?_) rfl (by kernel_rfl) (by kernel_rfl) (by kernel_rfl) (fun _ _ _ h => h) (Or.inl ⟨by go_simp, ?_⟩) hS ?_
                          rotate_left 1
                          · intro w' hSw
                            go_simp <;> with_reducible rfl
                          try simp only [List.getElem_toArray, List.getElem_cons_zero, List.getElem_cons_succ, Act.put, List.setIfInBounds_toArray, List.set_cons_zero, List.set_cons_succ]
                          refine wpAnyH_take (i := 21) (v := ?_) rfl (by kernel_rfl) (by kernel_rfl) (by kernel_rfl) (fun _ _ _ h => h) (Or.inl ⟨by go_simp, ?_⟩) hS ?_
                          rotate_left 1
                          · intro w' hSw
                            go_simp <;> with_reducible rfl
                          try simp only [List.getElem_toArray, List.getElem_cons_zero, List.getElem_cons_succ, Act.put, List.setIfInBounds_toArray, List.set_cons_zero, List.set_cons_succ]
                          refine wpAnyH_ready (rs := [22]) (by kernel_rfl) (by simp) (AllReadyH.cons rfl (fun K hK => ?_) AllReadyH.nil)
                          go_simp
                          refine (hmark _ hS.2).mono ?_
                          rintro _ w4 ⟨rfl, hbx⟩
                          go_simp
                          refine hK _ _ (keepS _ hbx) (fun hS => ?_)
                          clear hK K
                          try simp only [List.getElem_toArray, List.getElem_cons_zero, List.getElem_cons_succ, Act.put, List.setIfInBounds_toArray, List.set_cons_zero, List.set_cons_succ]
                          refine wpAnyH_take (i := 23) (v := ?_) rfl (by kernel_rfl) (by kernel_rfl) (by kernel_rfl) (fun _ _ _ h => h) (Or.inl ⟨by go_simp, ?_⟩) hS ?_
                          rotate_left 1
                          · intro w' hSw
                            go_simp <;> with_reducible rfl
                          try simp only [List.getElem_toArray, List.getElem_cons_zero, List.getElem_cons_succ, Act.put, List.setIfInBounds_toArray, List.set_cons_zero, List.set_cons_succ]
                          refine wpAnyH_take (i := 24) (v := ?_) rfl (by kernel_rfl) (by kernel_rfl) (by kernel_rfl) (fun _ _ _ h => h) (Or.inl ⟨by go_simp, ?_⟩) hS ?_
                          rotate_left 1
                          · intro w' hSw
                            go_simp <;> with_reducible rfl
                          try simp only [List.getElem_toArray, List.getElem_cons_zero, List.getElem_cons_succ, Act.put, List.setIfInBounds_toArray, List.set_cons_zero, List.set_cons_succ]
                          refine wpAnyH_take (i := 25) (v := ?_) rfl (by kernel_rfl) (by kernel_rfl) (by kernel_rfl) (fun _ _ _ h => h) (Or.inl ⟨by rfl, ?_⟩) hS ?_
                          rotate_left 1
                          · intro w' hSw
                            go_simp <;> with_reducible rfl
                          try simp only [List.getElem_toArray, List.getElem_cons_zero, List.getElem_cons_succ, Act.put, List.setIfInBounds_toArray, List.set_cons_zero, List.set_cons_succ]
                          refine wpAnyH_done (by kernel_rfl) ?_ _
                          clear keepS hmark co cg g0 g1 g2 g3 g4 g5 g6 g7 l0 l1 l2 l3 l4 l5 l6 l7 hS
                          go_wp2_with fail
                          go_roundw
                          case rel => exact ⟨j + 1, by omega, by go_num, hP.below hbx⟩
                          case measure => simp [intOf]; omega
                        · have d2 : decide ((j : Int) < (x.n : Int)) = false := decide_eq_false (by omega)
                          go_wp2_with fail
                          go_roundw
                          case rel => exact ⟨k + 1, by omega, by go_num, hP⟩
                          case measure => simp [intOf]; omega
                    · have d1 : decide ((k : Int) < (ls.length : Int)) = false := decide_eq_false (by omega)
                      go_wp2_with fail
                      go_ret
                      exact ⟨rfl, hP.2.1⟩
end Go.Proofs.YtjebjninlejoeaaGreatDoor
