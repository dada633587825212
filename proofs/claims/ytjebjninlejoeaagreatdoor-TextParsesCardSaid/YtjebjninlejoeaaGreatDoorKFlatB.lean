/- flatBytes: over this seat's program. -/
import Derived.Test.YtjebjninlejoeaaGreatDoorZQ
namespace Go.Proofs.YtjebjninlejoeaaGreatDoor
open Go.RowKit
set_option linter.unusedVariables false
set_option maxRecDepth 100000

def mkB (k i : Nat) : List Value := [.int .u8 (markB k i)]
theorem mkB_len (k i : Nat) : (mkB k i).length = 1 := rfl
theorem sl51_info : (Tryz.prog.info? 49).map (fun i => (i.zero, i.size, i.bytes)) = some (some (.slice none 0 0), 1, 24) := by kernel_rfl

theorem take_set_succ (l : List Value) (j : Nat) (u : Value) (h : j < l.length) : (l.set j u).take (j + 1) = l.take j ++ [u] := by
  rw [List.take_add_one, List.take_set_of_le (by omega)]
  simp [h]
set_option maxHeartbeats 4000000 in
theorem flatBytes_any (S : Nat → Prop) (ls : List Fs) (C : Nat → List Value) (A : Option Addr) (c : Nat) (w : World) (h : Fl w 5 1 S ls C) (ho : Outer w S A c ls) (hS : ∀ b, S b → b < w.heap.size) (hn : ls.length ≤ 1000000) (hl : ∀ x ∈ ls, x.n ≤ 1000000) :
    Calls Tryz.prog 81 #[.slice A ls.length c] w fun e w' => e = .returned (.bool true) ∧ Ag (fun b => ¬ S b) w w' := by
  obtain ⟨i0, hi, hz0, hz1, hz2⟩ := info_parts u8_info
  obtain ⟨j0, hj, hj0, hj1, hj2⟩ := info_parts sl51_info
  go_enter Tryz.func81, Tryz.ntmps81
  go_wp2_with fail
  go_loopw [3] (fun i wr => ∃ k : Nat, k ≤ ls.length ∧ i = .int .i64 k ∧ Ph1 mkB 5 1 S ls w k 0 wr) (fun i _ => ls.length - (intOf i).toNat)
  case atStart => exact ⟨0, Nat.zero_le _, rfl, Ph1.start h⟩
  case round =>
    clear h
    obtain ⟨k, hk, rfl, hP⟩ := hrel
    by_cases hlt : k < ls.length
    · have d1 : decide ((k : Int) < (ls.length : Int)) = true := decide_eq_true (by omega)
      obtain ⟨a, x, A', c', rfl, hx, co, n1, n2, n3, hv⟩ := hP.list ho hlt
      have hxl : x.n ≤ 1000000 := hl x (List.mem_of_getElem? hx.out)
      have hcl : ls.length ≤ c := ho.le
      have N3 := Lib.hid n3
      clear n3 co
      go_wp2_with fail
      obtain ⟨wo, rfl⟩ : ∃ wo : World, wo = wr := ⟨_, rfl⟩
      go_loopw [4] (fun i wr => ∃ j : Nat, j ≤ x.n ∧ i = .int .i64 j ∧ Ph1 mkB 5 1 S ls w k j wr) (fun i _ => x.n - (intOf i).toNat)
      case atStart => exact ⟨0, Nat.zero_le _, rfl, hP⟩
      case round =>
        clear hP
        obtain ⟨j, hj, rfl, hP⟩ := hrel
        have co : wr.cell? (a.add k) = some (.slice A' x.n c') := by
          obtain ⟨a', x', e1, e2, e3⟩ := ho.at_ hP.ag hlt
          injection e1 with e1
          have : x' = x := by have := e2.out.symm.trans hx.out; injection this
          subst this
          rw [e1, e3, hv.out]
        have hm : 0 ≤ (k : Int) := by omega
        by_cases hjl : j < x.n
        · have d2 : decide ((j : Int) < (x.n : Int)) = true := decide_eq_true (by omega)
          obtain rfl := N3.out (by omega)
          obtain ⟨⟨u, cu⟩, fu⟩ := hP.cells hx.out (i := j) (by omega)
          have HP := Lib.hid (hP.step mkB_len hS hx.out hjl)
          clear hP
          go_wp2_with fail
          go_still_tail 9, (by kernel_rfl)
          still_call (still_of (markByte_any _ _ _ (by omega) (by omega) (by omega) (by omega)))
          repeat still_step
          refine wpStill_nil ?_
          go_wp2_with fail
          go_roundw
          case rel => exact ⟨j + 1, by omega, by go_num, by simpa [sets, mkB] using HP.out.below (wr' := (sets wr x.b (j * 1) (mkB k j)).drew) ((Below.refl _ _).drew)⟩
          case measure => simp [intOf]; omega
        · have d2 : decide ((j : Int) < (x.n : Int)) = false := decide_eq_false (by omega)
          obtain rfl : j = x.n := by omega
          have HP := Lib.hid (hP.next hx.out)
          clear hP
          go_wp2_with fail
          go_roundw
          case rel => exact ⟨k + 1, by omega, by go_num, HP.out⟩
          case measure => simp [intOf]; omega
    · have d1 : decide ((k : Int) < (ls.length : Int)) = false := decide_eq_false (by omega)
      obtain rfl : k = ls.length := by omega
      obtain ⟨hF, hag⟩ := hP.done
      clear hP
      obtain ⟨wg, rfl⟩ : ∃ wg : World, wg = wr := ⟨_, rfl⟩
      go_wp2_with (at_make; refine wpList_make_full _ rfl _ _ 66 rfl wg.heap.size 49 j0 (.slice none 0 0) 1 Tryz.underlying66 hj hj0 hj1 _ _ _ _ ls.length rfl rfl (by omega) (by omega) (by rw [hj2]; omega) (by unfold maxLen; omega) (Nat.le_refl _) ?_; intro w1 hown1 hgrow1)
      have hb1 : Below wg.heap.size wg w1 := (Below.refl _ _).grown hgrow1 (Nat.le_refl _) (by simp)
      have hP := Ph2.start (X := fun k x => mks mkB k (x.n + 64)) (hF.below hb1) (hag.trans (Ag.of_below _ hb1)) (by have := hown1.1; simpa using this) (own_all hown1 (Nat.le_refl _))
      have hGw : w.heap.size ≤ wg.heap.size := hag.size
      clear hF hag hown1 hgrow1 hb1
      go_loopw [6] (fun i wr => ∃ k : Nat, k ≤ ls.length ∧ i = .int .i64 k ∧ Ph2 mkB 5 1 S ls 49 (fun k x => mks mkB k (x.n + 64)) w wg.heap.size k wr) (fun i _ => ls.length - (intOf i).toNat)
      case atStart => exact ⟨0, Nat.zero_le _, rfl, hP⟩
      case round =>
        clear hP hk
        obtain ⟨k, hk, rfl, hP⟩ := hrel
        by_cases hlt : k < ls.length
        · have d1 : decide ((k : Int) < (ls.length : Int)) = true := decide_eq_true (by omega)
          obtain ⟨a, x, A', c', rfl, hx, co, n1, n2, n3, hv⟩ := hP.list ho hlt
          have hxl : x.n ≤ 1000000 := hl x (List.mem_of_getElem? hx.out)
          have hcl : ls.length ≤ c := ho.le
          have hI := Inn.start hP.1 hx.out
          rw [mksOf_at hx.out, hv.out] at hI
          have hFo := hP.1
          clear n3
          go_wp2_with fail
          obtain ⟨wo, rfl⟩ : ∃ wo : World, wo = wr := ⟨_, rfl⟩
          go_loopw [7, 8] (fun g i wr => ∃ (j gb : Nat), j ≤ 64 ∧ i = .int .i64 j ∧ Inn wo wr 5 1 x g gb j (mks mkB k (x.n + j)) ∧ Fl wr 5 1 S ls (mksOf mkB ls)) (fun _ i _ => 64 - (intOf i).toNat)
          case atStart => exact ⟨0, x.b, Nat.zero_le _, rfl, hI, hFo⟩
          case round =>
            clear hI co
            obtain ⟨j, gb, hj, rfl, hI, hF⟩ := hrel
            by_cases hjl : j < 64
            · have d2 : decide ((j : Int) < 64) = true := decide_eq_true (by omega)
              have co : wr.cell? (a.add k) = some (.slice A' x.n c') := by
                obtain ⟨a', x', e1, e2, e3⟩ := ho.at_ (hP.2.1.trans (hI.ag.mono (fun b _ hb ⟨q1, q2⟩ => hb (by rw [q1]; exact (hFo.own k x hx.out q2).1)))) hlt
                injection e1 with e1
                have : x' = x := by have := e2.out.symm.trans hx.out; injection this
                subst this
                rw [e1, e3, hv.out]
              go_wp2_with (first
               | (go_at_call 153; refine (markByte_any _ _ _ (by omega) (by omega) (by omega) (by omega)).mono ?_; rintro e w' ⟨rfl, rfl⟩)
               | (at_builtin; refine wpList_append_grew _ rfl (.tmp 57) (.tmp 67) 49 rfl 5 i0 (.int .u8 0) 1 1 Tryz.underlying49 hi hz0 hz1 hz2 rfl u7 gb (x.n + j) (mks mkB k (x.n + j)) rfl (hI.row.keep (fun e => heap_alloc_old wr _ ?c0)) ⟨wr.heap.size, 0, none⟩ 1 1 (mkB k (x.n + j)) rfl rfl ?c1 ?c2 (by unfold maxLen; omega) (by omega) (by decide) ?_))
              case c0 => exact hI.lt hF hx.out e
              case c1 => exact news_new wr (mkB k (x.n + j)) 5
              case c2 => intro u hu; simp [mkB] at hu; subst hu; rfl
              intro v' w3 g' hrow3 hg3
              rw [← mks_succ] at hrow3
              obtain ⟨hI3, hF3⟩ := Inn.step hFo hF hx.out hI ((Below.refl _ _).alloc (Nat.le_refl _) _) hrow3 hg3
              clear hI hF hrow3 hg3 co
              go_wp2_with fail
              go_roundw
              case rel => exact ⟨j + 1, _, by omega, by go_num, hI3, hF3⟩
              case measure => simp [intOf]; omega
            · have d2 : decide ((j : Int) < 64) = false := decide_eq_false (by omega)
              obtain rfl : j = 64 := by omega
              obtain ⟨⟨gu, cg⟩, fg⟩ := hP.gcell hGw hS hx.out hI
              have HP := Lib.hid (hP.step hGw hS hx.out hI hF rfl rfl)
              obtain ⟨A2, c2, rfl, _, _, hA2⟩ := hI.row.shape
              obtain rfl := hA2 (by omega)
              clear hP hI hF hFo
              go_wp2_with fail
              go_roundw
              case rel => exact ⟨k + 1, by omega, by go_num, HP.out⟩
              case measure => simp [intOf]; omega
        · have d1 : decide ((k : Int) < (ls.length : Int)) = false := decide_eq_false (by omega)
          obtain rfl : k = ls.length := by omega
          go_wp2_with fail
          obtain ⟨wp, rfl⟩ : ∃ wp : World, wp = wr := ⟨_, rfl⟩
          go_loopw [9] (fun i wr => ∃ k : Nat, k ≤ ls.length ∧ i = .int .i64 k ∧ Ph2 mkB 5 1 S ls 49 (fun k x => mks mkB k (x.n + 64)) w wg.heap.size ls.length wr) (fun i _ => ls.length - (intOf i).toNat)
          case atStart => exact ⟨0, Nat.zero_le _, rfl, hP⟩
          case round =>
            clear hP hk
            obtain ⟨k, hk, rfl, hP⟩ := hrel
            by_cases hlt : k < ls.length
            · have d1 : decide ((k : Int) < (ls.length : Int)) = true := decide_eq_true (by omega)
              obtain ⟨a, x, A', c', rfl, hx, co, n1, n2, n3, hv⟩ := hP.list ho hlt
              have hxl : x.n ≤ 1000000 := hl x (List.mem_of_getElem? hx.out)
              have hcl : ls.length ≤ c := ho.le
              have N3 := Lib.hid n3
              clear n3 co
              go_wp2_with fail
              obtain ⟨wo, rfl⟩ : ∃ wo : World, wo = wr := ⟨_, rfl⟩
              go_loopw [10] (fun i wr => ∃ j : Nat, j ≤ x.n + 64 ∧ i = .int .i64 j ∧ Ph2 mkB 5 1 S ls 49 (fun k x => mks mkB k (x.n + 64)) w wg.heap.size ls.length wr) (fun i _ => x.n + 64 - (intOf i).toNat)
              case atStart => exact ⟨0, Nat.zero_le _, rfl, hP⟩
              case round =>
                clear hP
                obtain ⟨j, hj, rfl, hP⟩ := hrel
                obtain ⟨gb, cap, cg, g1, g2, g3, g4⟩ := hP.at_ hlt hx.out
                have co : wr.cell? (a.add k) = some (.slice A' x.n c') := by
                  obtain ⟨a', x', e1, e2, e3⟩ := ho.at_ hP.2.1 hlt
                  injection e1 with e1
                  have : x' = x := by have := e2.out.symm.trans hx.out; injection this
                  subst this
                  rw [e1, e3, hv.out]
                have G3 := Lib.hid g3
                have G4 := Lib.hid g4
                clear g3 g4
                have q1 : (markB k j == markB k j) = true := by simp
                by_cases hjl : j < x.n + 64
                · have d2 : decide ((j : Int) < (x.n : Int) + 64) = true := decide_eq_true (by omega)
                  have i1 : (0 : Int) ≤ (j : Int) := by omega
                  have i2 : (j : Int) < (x.n : Int) + 64 := by omega
                  have c3 : wr.cell? ⟨gb, j, none⟩ = some (.int .u8 (markB k j)) := by
                    have := mks_get mkB_len k (x.n + 64) j 0 hjl (by omega)
                    rw [G3.out j (by omega)]
                    simpa [mkB] using this
                  by_cases hjx : j < x.n
                  · have d3 : decide (j < x.n) = true := decide_eq_true (by omega)
                    obtain rfl := N3.out (by omega)
                    have c4 : wr.cell? ⟨x.b, j, none⟩ = some (.int .u8 (markB k j)) := by
                      have := mks_get mkB_len k x.n j 0 hjx (by omega)
                      rw [G4.out j (by omega)]
                      simpa [mkB] using this
                    go_wp2_with fail
                    go_quiet ((go_at_call 153; exact Calls.quiet_of_same (still_of (markByte_any _ _ _ (by omega) (by omega) (by omega) (by omega)))))
                    go_wp2_with fail
                    go_roundw
                    case rel => exact ⟨j + 1, by omega, by go_num, hP.below (below_drewN _ _)⟩
                    case measure => simp [intOf]; omega
                  · have d3 : decide (j < x.n) = false := decide_eq_false (by omega)
                    go_wp2_with fail
                    go_quiet ((go_at_call 153; exact Calls.quiet_of_same (still_of (markByte_any _ _ _ (by omega) (by omega) (by omega) (by omega)))))
                    go_wp2_with fail
                    go_roundw
                    case rel => exact ⟨j + 1, by omega, by go_num, hP.below (below_drewN _ _)⟩
                    case measure => simp [intOf]; omega
                · have d2 : decide ((j : Int) < (x.n : Int) + 64) = false := decide_eq_false (by omega)
                  go_wp2_with fail
                  go_roundw
                  case rel => exact ⟨k + 1, by omega, by go_num, hP⟩
                  case measure => simp [intOf]; omega
            · have d1 : decide ((k : Int) < (ls.length : Int)) = false := decide_eq_false (by omega)
              obtain rfl : k = ls.length := by omega
              replace hP := hP.again (X' := fun k x => mks mkB k x.n ++ mks mkB (k + ls.length) 64)
              go_wp2_with fail
              obtain ⟨wq, rfl⟩ : ∃ wq : World, wq = wr := ⟨_, rfl⟩
              go_loopw [11] (fun i wr => ∃ k : Nat, k ≤ ls.length ∧ i = .int .i64 k ∧ Ph2 mkB 5 1 S ls 49 (fun k x => mks mkB k x.n ++ mks mkB (k + ls.length) 64) w wg.heap.size k wr) (fun i _ => ls.length - (intOf i).toNat)
              case atStart => exact ⟨0, Nat.zero_le _, rfl, hP⟩
              case round =>
                clear hP hk
                obtain ⟨k, hk, rfl, hP⟩ := hrel
                by_cases hlt : k < ls.length
                · have d1 : decide ((k : Int) < (ls.length : Int)) = true := decide_eq_true (by omega)
                  go_wp2_with (at_make; refine wpList_make_full _ rfl _ _ 49 rfl wr.heap.size 5 i0 (.int .u8 0) 1 Tryz.underlying49 hi hz0 hz1 .i64 .i64 64 64 64 rfl rfl (by omega) (by omega) (by rw [hz2]; omega) (by unfold maxLen; omega) (Nat.le_refl _) ?_; intro w1 hown1 hgrow1)
                  have hb1 : Below wr.heap.size wr w1 := (Below.refl _ _).grown hgrow1 (Nat.le_refl _) (by simp)
                  have hcs : ((madeCells (Value.int .u8 0).cells (64 * 1)).toList).length = 64 := by simpa using hown1.1
                  have hbk : Bk w1 wr.heap.size 5 (madeCells (Value.int .u8 0).cells (64 * 1)).toList := own_all hown1 (Nat.le_refl _)
                  obtain ⟨wm, rfl⟩ : ∃ wm : World, wm = wr := ⟨_, rfl⟩
                  have HC := Lib.hid hcs
                  clear hcs hown1 hgrow1
                  go_loopw [13] (fun i wr => ∃ (j : Nat) (cs : List Value), j ≤ 64 ∧ i = .int .i64 j ∧ Bk wr wm.heap.size 5 cs ∧ Hid (cs.length = 64) ∧ Hid (cs.take j = mks mkB (k + ls.length) j) ∧ Below wm.heap.size wm wr) (fun i _ => 64 - (intOf i).toNat)
                  case atStart => exact ⟨0, _, Nat.zero_le _, rfl, hbk, HC, Lib.hid (by simp [mks]), hb1⟩
                  case round =>
                    clear hb1 hbk HC
                    obtain ⟨j, cs, hj, rfl, hbk, HC, HM, hb⟩ := hrel
                    by_cases hjl : j < 64
                    · have d2 : decide ((j : Int) < 64) = true := decide_eq_true (by omega)
                      have i1 : (0 : Int) ≤ (j : Int) := by omega
                      have i2 : (j : Int) < 64 := by omega
                      have hf := frozen_blk hbk j
                      have hc : wr.cell? ⟨wm.heap.size, j, none⟩ = some (cs[j]'(by have := HC.out; omega)) := by rw [hbk.cell]; exact List.getElem?_eq_getElem _
                      go_wp2_with (go_at_call 153; refine (markByte_any _ _ _ (by omega) (by omega) (by omega) (by omega)).mono ?_; rintro e w' ⟨rfl, rfl⟩)
                      go_roundw
                      case rel => exact ⟨j + 1, _, by omega, by go_num, hbk.set j _, Lib.hid (by simp [HC.out]), Lib.hid (by rw [take_set_succ _ _ _ (by rw [HC.out]; exact hjl), HM.out, mks_succ]; simp [mkB]), hb.setCell (Nat.le_refl _) _⟩
                      case measure => simp [intOf]; omega
                    · have d2 : decide ((j : Int) < 64) = false := decide_eq_false (by omega)
                      obtain rfl : j = 64 := by omega
                      have hcs : cs = mks mkB (k + ls.length) 64 := by rw [← HM.out, List.take_of_length_le (by rw [HC.out]; omega)]
                      subst hcs
                      replace hP := hP.below hb
                      obtain ⟨a, x, A', c', rfl, hx, co, n1, n2, n3, hv⟩ := hP.list ho hlt
                      have hxl : x.n ≤ 1000000 := hl x (List.mem_of_getElem? hx.out)
                      have hcl : ls.length ≤ c := ho.le
                      have hFo := hP.1
                      have hrow := hFo.row k x hx.out
                      rw [mksOf_at hx.out, hv.out] at hrow
                      have hI := Inn.start hP.1 hx.out
                      rw [mksOf_at hx.out, hv.out] at hI
                      have hnews : ∀ j u, (mks mkB (k + ls.length) 64)[j]? = some u → wr.cell? ((⟨wm.heap.size, 0, none⟩ : Addr).add j) = some u := by
                        intro q u hu
                        have hadd : (⟨wm.heap.size, 0, none⟩ : Addr).add q = ⟨wm.heap.size, q, none⟩ := by unfold Addr.add; split <;> simp_all
                        rw [hadd, hbk.cell, hu]
                      have hone : ∀ u ∈ mks mkB (k + ls.length) 64, u.oneCell' = true := by
                        intro u hu
                        simp only [mks, List.mem_flatMap, mkB, List.mem_singleton] at hu
                        obtain ⟨_, _, rfl⟩ := hu
                        rfl
                      have HN := Lib.hid hnews
                      have HO := Lib.hid hone
                      clear n3 hnews hone hbk
                      have hwm := hb.size
                      go_wp2_with (at_builtin; refine wpList_append_grew _ rfl (.tmp 148) (.tmp 149) 49 rfl 5 i0 (.int .u8 0) 1 1 Tryz.underlying49 hi hz0 hz1 hz2 rfl (.slice A' x.n c') x.b x.n (mks mkB k x.n) rfl hrow ⟨wm.heap.size, 0, none⟩ 64 64 (mks mkB (k + ls.length) 64) rfl ?c0 HN.out HO.out (by unfold maxLen; omega) (by omega) (by decide) ?_)
                      case c0 => rw [mks_len mkB_len]
                      intro v' w3 g' hrow3 hg3
                      obtain ⟨hI3, hF3⟩ := Inn.step hFo hFo hx.out hI (Below.refl _ _) hrow3 hg3
                      obtain ⟨⟨gu, cg⟩, fg⟩ := hP.gcell hGw hS hx.out hI3
                      have HP := Lib.hid (hP.step hGw hS hx.out hI3 hF3 rfl rfl)
                      obtain ⟨A2, c2, rfl, _, _, hA2⟩ := hI3.row.shape
                      obtain rfl := hA2 (by omega)
                      clear hP hI hFo hI3 hF3 hrow hrow3 hg3 co
                      go_wp2_with fail
                      go_roundw
                      case rel => exact ⟨k + 1, by omega, by go_num, HP.out⟩
                      case measure => simp [intOf]; omega
                · have d1 : decide ((k : Int) < (ls.length : Int)) = false := decide_eq_false (by omega)
                  obtain rfl : k = ls.length := by omega
                  go_wp2_with fail
                  obtain ⟨wt, rfl⟩ : ∃ wt : World, wt = wr := ⟨_, rfl⟩
                  go_loopw [14] (fun i wr => ∃ k : Nat, k ≤ ls.length ∧ i = .int .i64 k ∧ Ph2 mkB 5 1 S ls 49 (fun k x => mks mkB k x.n ++ mks mkB (k + ls.length) 64) w wg.heap.size ls.length wr) (fun i _ => ls.length - (intOf i).toNat)
                  case atStart => exact ⟨0, Nat.zero_le _, rfl, hP⟩
                  case round =>
                    clear hP hk
                    obtain ⟨k, hk, rfl, hP⟩ := hrel
                    by_cases hlt : k < ls.length
                    · have d1 : decide ((k : Int) < (ls.length : Int)) = true := decide_eq_true (by omega)
                      obtain ⟨a, x, A', c', rfl, hx, co, n1, n2, n3, hv⟩ := hP.list ho hlt
                      have hxl : x.n ≤ 1000000 := hl x (List.mem_of_getElem? hx.out)
                      have hcl : ls.length ≤ c := ho.le
                      have N3 := Lib.hid n3
                      clear n3 co
                      go_wp2_with fail
                      obtain ⟨wo, rfl⟩ : ∃ wo : World, wo = wr := ⟨_, rfl⟩
                      go_loopw [15] (fun i wr => ∃ j : Nat, j ≤ x.n ∧ i = .int .i64 j ∧ Ph2 mkB 5 1 S ls 49 (fun k x => mks mkB k x.n ++ mks mkB (k + ls.length) 64) w wg.heap.size ls.length wr) (fun i _ => x.n - (intOf i).toNat)
                      case atStart => exact ⟨0, Nat.zero_le _, rfl, hP⟩
                      case round =>
                        clear hP
                        obtain ⟨j, hj, rfl, hP⟩ := hrel
                        obtain ⟨gb, cap, cg, g1, g2, g3, g4⟩ := hP.at_ hlt hx.out
                        have co : wr.cell? (a.add k) = some (.slice A' x.n c') := by
                          obtain ⟨a', x', e1, e2, e3⟩ := ho.at_ hP.2.1 hlt
                          injection e1 with e1
                          have : x' = x := by have := e2.out.symm.trans hx.out; injection this
                          subst this
                          rw [e1, e3, hv.out]
                        have G3 := Lib.hid g3
                        have G4 := Lib.hid g4
                        clear g3 g4
                        have q1 : (markB k j == markB k j) = true := by simp
                        by_cases hjl : j < x.n
                        · have d2 : decide ((j : Int) < (x.n : Int)) = true := decide_eq_true (by omega)
                          have i1 : (0 : Int) ≤ (j : Int) := by omega
                          have i2 : (j : Int) < (x.n : Int) := by omega
                          have i3 : (j : Int) < (x.n : Int) + 64 := by omega
                          obtain rfl := N3.out (by omega)
                          have c4 : wr.cell? ⟨x.b, j, none⟩ = some (.int .u8 (markB k j)) := by
                            have := mks_get mkB_len k x.n j 0 hjl (by omega)
                            rw [G4.out j (by omega)]
                            simpa [mkB] using this
                          have c3 : wr.cell? ⟨gb, j, none⟩ = some (.int .u8 (markB k j)) := by
                            have := mks_get mkB_len k x.n j 0 hjl (by omega)
                            rw [G3.out j (by omega), List.getElem?_append_left (by rw [mks_len mkB_len]; omega)]
                            simpa [mkB] using this
                          go_wp2_with fail
                          go_quiet ((go_at_call 153; exact Calls.quiet_of_same (still_of (markByte_any _ _ _ (by omega) (by omega) (by omega) (by omega)))))
                          go_wp2_with fail
                          go_roundw
                          case rel => exact ⟨j + 1, by omega, by go_num, hP.below (below_drewN _ _)⟩
                          case measure => simp [intOf]; omega
                        · have d2 : decide ((j : Int) < (x.n : Int)) = false := decide_eq_false (by omega)
                          go_wp2_with fail
                          go_roundw
                          case rel => exact ⟨k + 1, by omega, by go_num, hP⟩
                          case measure => simp [intOf]; omega
                    · have d1 : decide ((k : Int) < (ls.length : Int)) = false := decide_eq_false (by omega)
                      go_wp2_with fail
                      go_ret
                      exact ⟨rfl, hP.2.1⟩
end Go.Proofs.YtjebjninlejoeaaGreatDoor
