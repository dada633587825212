/- text, the walk: a line that begins with a word of the language. -/
import Derived.Test.YtjebjninlejoeaaGreatDoorZI
namespace Go.Proofs.YtjebjninlejoeaaGreatDoor
open Go.RowKit Go.Maps Go.ChangeMaps
set_option linter.unusedVariables false
set_option linter.unusedSimpArgs false
set_option linter.unusedSectionVars false
set_option maxRecDepth 100000

theorem RdR.either {R N : Nat} {K : Nat → Prop} {n : Int} {w : World} {r : Option (IV × Nm × List Nm)} {v : Value} {x : Ending} {w' : World} (h : RdR R N K n w r v x w') : (∃ i lb t, r = some (i, lb, t) ∧ x = .returned v ∧ RdAt w' R N K i lb t n ∧ Ag (Fr R N) w w') ∨ (r = none ∧ x = Thrown 120 n ∧ Ag (Fr R N) w w') := by
  cases r with
  | none => exact .inr ⟨rfl, h.1, h.2⟩
  | some p => exact .inl ⟨p.1, p.2.1, p.2.2, rfl, h.1, h.2.1, h.2.2⟩
theorem LI.fell {w W W' : World} {D P Wm M N Q R : Nat} {st : PS} {vo vj : Value} {n : Int} {l : List Nm} (h : LI w D P Wm M N Q st vo vj n l W) (ha : Ag (Fr R N) W W') (hR : w.heap.size ≤ R) (hD : D ≤ w.heap.size) : Lo D w W' :=
  Lo.of (h.low.trans (Below.of_fr ha hR h.lo h.low.size)) hD
section
variable {w W W' : World} {D P Wm M R N : Nat} {st : PS} {vo vj : Value} {i : IV} {lb : Nm} (h : LJ w D P Wm M R N st vo vj i lb W)
include h
theorem LJ.jbk (hg : W.grownBy W' vj.ownBlock) : Bk W' P 58 [vo, .map (some Wm), .map (some M), vj] := (hg.block P h.ps.bk.lt (fun e => (h.ps.nj P e.symm).1 rfl)).trans h.ps.bk
theorem LJ.obk (hg : W.grownBy W' vo.ownBlock) : Bk W' P 58 [vo, .map (some Wm), .map (some M), vj] := (hg.block P h.ps.bk.lt (fun e => (h.ps.no P e.symm).1 rfl)).trans h.ps.bk
end
theorem info_jmp : ∃ i0 : TypeInfo, Tryz.prog.info? 129 = some i0 ∧ i0.zero = some (.agg #[.int .i64 0, .int .i64 0, .string ⟨#[]⟩]) ∧ i0.size = 3 ∧ i0.bytes = 32 := ⟨_, rfl, rfl, rfl, rfl⟩
theorem info_ins : ∃ i0 : TypeInfo, Tryz.prog.info? 40 = some i0 ∧ i0.zero = some (.agg #[.int .u8 0, .bool false, .int .i64 0, .int .i64 0, .bool false, .int .i64 0, .int .i64 0, .int .i64 0]) ∧ i0.size = 8 ∧ i0.bytes = 56 := ⟨_, rfl, rfl, rfl, rfl⟩
set_option maxHeartbeats 2000000 in
theorem line_known (s : Nm) (hs : s.length ≤ 1000000) (m : Nat) (n : Int) (hn : n = (m : Int)) {B P Wm M : Nat} {st : PS} {vo vj : Value} (w : World) (hv : Tv B w) (hB : B ≤ w.heap.size) {s0 : Nm} {t : List Nm} (ht : toks s = some (s0 :: t)) (hm : markT (s0 :: t) = none) (hs0 : s0.length ≤ 1000000) {D : Nat} (hp : PsAt w D P Wm M st vo vj) (hsz : st.out.length ≤ 4096 ∧ st.jumps.length ≤ 4096) {i : IV} {k : Kind} (hw : wayP s0 = some (i, k)) : Calls Tryz.prog 27 #[.pointer (some ⟨P, 0, none⟩), .string ⟨s.toArray⟩, .int .i64 n] w fun x w' => LineR w D P Wm M (stepP st m s) x w' := by
  obtain ⟨op, nr, dd, ds, du, dof, dm, dz⟩ := i
  have hS := split_word s hs n P w hv hB ht hm
  have HW0 := Lib.hid (step_word (st := st) (n := m) ht hm hw)
  generalize stepP st m s = rr at *
  have HP := Lib.hid hp
  have HD := Lib.hid (show D ≤ w.heap.size from Nat.le_trans hp.lo.1 (Nat.le_of_lt hp.bk.lt))
  have HW := Lib.hid hw
  have HS0 := Lib.hid hs0
  have HSZ := Lib.hid hsz
  have HM := Lib.hid hn
  clear ht hm hp hw hs0 hsz hn
  go_enter Tryz.func27, Tryz.ntmps27
  go_wp2_with fail
  (with_reducible refine hS.mono ?_)
  rintro _ w1 ⟨N, c, A, rfl, c0, b1, hlo, hrow, hk⟩
  clear hS
  have d1 : decide (((t.length + 1 : Nat) : Int) = 0) = false := decide_eq_false (by omega)
  have d2 : decide ((t.length : Int) + 1 = 0) = false := decide_eq_false (by omega)
  have HI : Hid (LI w D P Wm M N w1.heap.size st vo vj n (s0 :: t) w1) := Lib.hid ⟨b1.out, HP.out.below b1.out, hrow.out.within, hlo.out, fun b hb => (HP.out.lt hb).2, Nat.le_refl _⟩
  go_wp2_with fail
  (with_reducible refine hk.out.mono ?_)
  rintro _ w2 ⟨rfl, rfl⟩
  clear hk
  go_wp2_with fail
  go_cut [7, 8] (fun p q wx => ∃ bb, p = .pointer (some ⟨bb, 0, none⟩) ∧ q = .bool true ∧ Hid (LI w D P Wm M N w2.heap.size st vo vj n t wx) ∧ Hid (Bk wx bb 114 (ivV ⟨op, nr, dd, ds, du, dof, dm, dz⟩ ++ [fnV (kindF k)])) ∧ Hid (w.heap.size ≤ bb ∧ bb ≠ N))
  case first =>
    refine wp_region_held_drew (S := fun _ => True) (by kernel_rfl) trivial (fun hS => ?_)
    have HI := Lib.hid HI.out.drew
    clear hrow b1 c0
    generalize w2.drew = wz at *
    refine wpAnyH_norm 13 (Array.replicate 13 false) rfl rfl ?_
    refine wpAnyH_take (i := 0) (v := ?_) rfl (by kernel_rfl) (by kernel_rfl) (by kernel_rfl) (fun _ _ _ h => h) (Or.inl ⟨by rfl, ?_⟩) hS ?_
    rotate_left 1
    · intro w' hSw
      go_simp <;> with_reducible rfl
    try simp only [List.getElem_toArray, List.getElem_cons_zero, List.getElem_cons_succ, Act.put, List.setIfInBounds_toArray, List.set_cons_zero, List.set_cons_succ]
    refine wpAnyH_take (i := 1) (v := ?_) rfl (by kernel_rfl) (by kernel_rfl) (by kernel_rfl) (fun _ _ _ h => h) (Or.inl ⟨by rfl, ?_⟩) hS ?_
    rotate_left 1
    · intro w' hSw
      go_simp <;> with_reducible rfl
    try simp only [List.getElem_toArray, List.getElem_cons_zero, List.getElem_cons_succ, Act.put, List.setIfInBounds_toArray, List.set_cons_zero, List.set_cons_succ]
    refine wpAnyH_take (i := 2) (v := ?_) rfl (by kernel_rfl) (by kernel_rfl) (by kernel_rfl) (fun _ _ _ h => h) (Or.inl ⟨by rfl, ?_⟩) hS ?_
    rotate_left 1
    · intro w' hSw
      go_simp <;> with_reducible rfl
    try simp only [List.getElem_toArray, List.getElem_cons_zero, List.getElem_cons_succ, Act.put, List.setIfInBounds_toArray, List.set_cons_zero, List.set_cons_succ]
    refine wpAnyH_take (i := 4) (v := ?_) rfl (by kernel_rfl) (by kernel_rfl) (by kernel_rfl) (fun _ _ _ h => h) (Or.inl ⟨by rfl, ?_⟩) hS ?_
    rotate_left 1
    · intro w' hSw
      go_simp <;> with_reducible rfl
    try simp only [List.getElem_toArray, List.getElem_cons_zero, List.getElem_cons_succ, Act.put, List.setIfInBounds_toArray, List.set_cons_zero, List.set_cons_succ]
    refine wpAnyH_norm 9 #[true, true, true, false, true, false, false, false, false, false, false, false, false] (by kernel_rfl) (by kernel_rfl) ?_
    refine wpAnyH_ready (rs := [3, 5, 10]) (by kernel_rfl) (by simp) (AllReadyH.cons rfl (fun K hK => ?_) (AllReadyH.cons rfl (fun K hK => ?_) (AllReadyH.cons rfl (fun K hK => ?_) AllReadyH.nil)))
    · have cw := HI.out.ways
      go_simp
      refine hK _ _ trivial (fun hS => ?_)
      clear hK K cw
      try simp only [List.getElem_toArray, List.getElem_cons_zero, List.getElem_cons_succ, Act.put, List.setIfInBounds_toArray, List.set_cons_zero, List.set_cons_succ]
      refine wpAnyH_ready (rs := [5, 10]) (by kernel_rfl) (by simp) (AllReadyH.cons rfl (fun K hK => ?_) (AllReadyH.cons rfl (fun K hK => ?_) AllReadyH.nil))
      · go_simp
        (with_reducible refine (take_any HI.out.row HI.out.row.ltN).mono ?_)
        rintro _ wz ⟨rfl, r5, a5⟩
        have HI := Lib.hid (HI.out.took r5 a5)
        first | (have HK := Lib.hid (show Bk wz _ _ _ from (a5.block _ HK.out.lt HN.out).trans HK.out)) | skip
        go_simp
        refine hK _ _ trivial (fun hS => ?_)
        clear hK K
        try simp only [List.getElem_toArray, List.getElem_cons_zero, List.getElem_cons_succ, Act.put, List.setIfInBounds_toArray, List.set_cons_zero, List.set_cons_succ]
        refine wpAnyH_ready (rs := [6, 10]) (by kernel_rfl) (by simp) (AllReadyH.cons rfl (fun K hK => ?_) (AllReadyH.cons rfl (fun K hK => ?_) AllReadyH.nil))
        · have hl := HI.out.ps.ways.look2 wayTy s0 HS0.out zeroWay
          rw [HW.out] at hl
          simp only [Option.map_some, Option.getD_some, Option.isSome_some] at hl
          unfold nmV kV at hl
          go_simp
          refine hK _ _ trivial (fun hS => ?_)
          clear hK K hl
          try simp only [List.getElem_toArray, List.getElem_cons_zero, List.getElem_cons_succ, Act.put, List.setIfInBounds_toArray, List.set_cons_zero, List.set_cons_succ]
          refine wpAnyH_take (i := 7) (v := ?_) rfl (by kernel_rfl) (by kernel_rfl) (by kernel_rfl) (fun _ _ _ h => h) (Or.inl ⟨by rfl, ?_⟩) hS ?_
          rotate_left 1
          · intro w' hSw
            go_simp <;> with_reducible rfl
          try simp only [List.getElem_toArray, List.getElem_cons_zero, List.getElem_cons_succ, Act.put, List.setIfInBounds_toArray, List.set_cons_zero, List.set_cons_succ]
          refine wpAnyH_take (i := 8) (v := ?_) rfl (by kernel_rfl) (by kernel_rfl) (by kernel_rfl) (fun _ _ _ h => h) (Or.inl ⟨by rfl, ?_⟩) hS ?_
          rotate_left 1
          · intro w' hSw
            go_simp <;> with_reducible rfl
          try simp only [List.getElem_toArray, List.getElem_cons_zero, List.getElem_cons_succ, Act.put, List.setIfInBounds_toArray, List.set_cons_zero, List.set_cons_succ]
          refine wpAnyH_take (i := 9) (v := ?_) rfl (by kernel_rfl) (by kernel_rfl) (by kernel_rfl) (fun _ _ _ h => h) (Or.inl ⟨by rfl, ?_⟩) hS ?_
          rotate_left 1
          · intro w' hSw
            go_simp <;> with_reducible rfl
          try simp only [List.getElem_toArray, List.getElem_cons_zero, List.getElem_cons_succ, Act.put, List.setIfInBounds_toArray, List.set_cons_zero, List.set_cons_succ]
          refine wpAnyH_ready (rs := [10]) (by kernel_rfl) (by simp) (AllReadyH.cons rfl (fun K hK => ?_) AllReadyH.nil)
          have HN := Lib.hid (show wz.heap.size ≠ N by have := HI.out.row.ltN; omega)
          have HF := Lib.hid (And.intro HI.out.low.size HI.out.sz)
          have HK := Lib.hid (Bk.new wz 114 [.int .u8 0, .bool false, .int .i64 0, .int .i64 0, .bool false, .int .i64 0, .int .i64 0, .int .i64 0, .nilFunc])
          have HI := Lib.hid (HI.out.alloc (.cells [.int .u8 0, .bool false, .int .i64 0, .int .i64 0, .bool false, .int .i64 0, .int .i64 0, .int .i64 0, .nilFunc].toArray 114))
          go_simp
          refine hK _ _ trivial (fun hS => ?_)
          clear hK K
          generalize wz.alloc (.cells #[.int .u8 0, .bool false, .int .i64 0, .int .i64 0, .bool false, .int .i64 0, .int .i64 0, .int .i64 0, .nilFunc] 114) = wz at *
          try simp only [List.getElem_toArray, List.getElem_cons_zero, List.getElem_cons_succ, Act.put, List.setIfInBounds_toArray, List.set_cons_zero, List.set_cons_succ]
          refine wpAnyH_ready (rs := [11]) (by kernel_rfl) (by simp) (AllReadyH.cons rfl (fun K hK => ?_) AllReadyH.nil)
          obtain ⟨wq, hwq, kq, aq⟩ := bk_write (us := ivV ⟨op, nr, dd, ds, du, dof, dm, dz⟩ ++ [fnV (kindF k)]) HK.out rfl (by intro v hv; simp [ivV, fnV] at hv; rcases hv with rfl | rfl | rfl | rfl | rfl | rfl | rfl | rfl | rfl <;> rfl)
          have HI := Lib.hid (HI.out.wrote HF.out.1 HN.out HF.out.2 aq)
          have HK := Lib.hid kq
          unfold wayV
          go_simp
          clear hwq
          refine hK _ _ trivial (fun hS => ?_)
          clear hK K kq aq
          try simp only [List.getElem_toArray, List.getElem_cons_zero, List.getElem_cons_succ, Act.put, List.setIfInBounds_toArray, List.set_cons_zero, List.set_cons_succ]
          refine wpAnyH_ready (rs := [12]) (by kernel_rfl) (by simp) (AllReadyH.cons rfl (fun K hK => ?_) AllReadyH.nil)
          go_simp
          refine hK _ _ trivial (fun hS => ?_)
          clear hK K
          try simp only [List.getElem_toArray, List.getElem_cons_zero, List.getElem_cons_succ, Act.put, List.setIfInBounds_toArray, List.set_cons_zero, List.set_cons_succ]
          refine wpAnyH_done (by kernel_rfl) ?_ _
          go_wp2_with fail
          go_meet
          exact ⟨_, rfl, rfl, HI, HK, Lib.hid ⟨HF.out.1, HN.out⟩⟩
        · have HN := Lib.hid (show wz.heap.size ≠ N by have := HI.out.row.ltN; omega)
          have HF := Lib.hid (And.intro HI.out.low.size HI.out.sz)
          have HK := Lib.hid (Bk.new wz 114 [.int .u8 0, .bool false, .int .i64 0, .int .i64 0, .bool false, .int .i64 0, .int .i64 0, .int .i64 0, .nilFunc])
          have HI := Lib.hid (HI.out.alloc (.cells [.int .u8 0, .bool false, .int .i64 0, .int .i64 0, .bool false, .int .i64 0, .int .i64 0, .int .i64 0, .nilFunc].toArray 114))
          go_simp
          refine hK _ _ trivial (fun hS => ?_)
          clear hK K
          generalize wz.alloc (.cells #[.int .u8 0, .bool false, .int .i64 0, .int .i64 0, .bool false, .int .i64 0, .int .i64 0, .int .i64 0, .nilFunc] 114) = wz at *
          try simp only [List.getElem_toArray, List.getElem_cons_zero, List.getElem_cons_succ, Act.put, List.setIfInBounds_toArray, List.set_cons_zero, List.set_cons_succ]
          refine wpAnyH_ready (rs := [6]) (by kernel_rfl) (by simp) (AllReadyH.cons rfl (fun K hK => ?_) AllReadyH.nil)
          have hl := HI.out.ps.ways.look2 wayTy s0 HS0.out zeroWay
          rw [HW.out] at hl
          simp only [Option.map_some, Option.getD_some, Option.isSome_some] at hl
          unfold nmV kV at hl
          go_simp
          refine hK _ _ trivial (fun hS => ?_)
          clear hK K hl
          try simp only [List.getElem_toArray, List.getElem_cons_zero, List.getElem_cons_succ, Act.put, List.setIfInBounds_toArray, List.set_cons_zero, List.set_cons_succ]
          refine wpAnyH_take (i := 7) (v := ?_) rfl (by kernel_rfl) (by kernel_rfl) (by kernel_rfl) (fun _ _ _ h => h) (Or.inl ⟨by rfl, ?_⟩) hS ?_
          rotate_left 1
          · intro w' hSw
            go_simp <;> with_reducible rfl
          try simp only [List.getElem_toArray, List.getElem_cons_zero, List.getElem_cons_succ, Act.put, List.setIfInBounds_toArray, List.set_cons_zero, List.set_cons_succ]
          refine wpAnyH_take (i := 8) (v := ?_) rfl (by kernel_rfl) (by kernel_rfl) (by kernel_rfl) (fun _ _ _ h => h) (Or.inl ⟨by rfl, ?_⟩) hS ?_
          rotate_left 1
          · intro w' hSw
            go_simp <;> with_reducible rfl
          try simp only [List.getElem_toArray, List.getElem_cons_zero, List.getElem_cons_succ, Act.put, List.setIfInBounds_toArray, List.set_cons_zero, List.set_cons_succ]
          refine wpAnyH_take (i := 9) (v := ?_) rfl (by kernel_rfl) (by kernel_rfl) (by kernel_rfl) (fun _ _ _ h => h) (Or.inl ⟨by rfl, ?_⟩) hS ?_
          rotate_left 1
          · intro w' hSw
            go_simp <;> with_reducible rfl
          try simp only [List.getElem_toArray, List.getElem_cons_zero, List.getElem_cons_succ, Act.put, List.setIfInBounds_toArray, List.set_cons_zero, List.set_cons_succ]
          refine wpAnyH_ready (rs := [11]) (by kernel_rfl) (by simp) (AllReadyH.cons rfl (fun K hK => ?_) AllReadyH.nil)
          obtain ⟨wq, hwq, kq, aq⟩ := bk_write (us := ivV ⟨op, nr, dd, ds, du, dof, dm, dz⟩ ++ [fnV (kindF k)]) HK.out rfl (by intro v hv; simp [ivV, fnV] at hv; rcases hv with rfl | rfl | rfl | rfl | rfl | rfl | rfl | rfl | rfl <;> rfl)
          have HI := Lib.hid (HI.out.wrote HF.out.1 HN.out HF.out.2 aq)
          have HK := Lib.hid kq
          unfold wayV
          go_simp
          clear hwq
          refine hK _ _ trivial (fun hS => ?_)
          clear hK K kq aq
          try simp only [List.getElem_toArray, List.getElem_cons_zero, List.getElem_cons_succ, Act.put, List.setIfInBounds_toArray, List.set_cons_zero, List.set_cons_succ]
          refine wpAnyH_ready (rs := [12]) (by kernel_rfl) (by simp) (AllReadyH.cons rfl (fun K hK => ?_) AllReadyH.nil)
          go_simp
          refine hK _ _ trivial (fun hS => ?_)
          clear hK K
          try simp only [List.getElem_toArray, List.getElem_cons_zero, List.getElem_cons_succ, Act.put, List.setIfInBounds_toArray, List.set_cons_zero, List.set_cons_succ]
          refine wpAnyH_done (by kernel_rfl) ?_ _
          go_wp2_with fail
          go_meet
          exact ⟨_, rfl, rfl, HI, HK, Lib.hid ⟨HF.out.1, HN.out⟩⟩
      · have HN := Lib.hid (show wz.heap.size ≠ N by have := HI.out.row.ltN; omega)
        have HF := Lib.hid (And.intro HI.out.low.size HI.out.sz)
        have HK := Lib.hid (Bk.new wz 114 [.int .u8 0, .bool false, .int .i64 0, .int .i64 0, .bool false, .int .i64 0, .int .i64 0, .int .i64 0, .nilFunc])
        have HI := Lib.hid (HI.out.alloc (.cells [.int .u8 0, .bool false, .int .i64 0, .int .i64 0, .bool false, .int .i64 0, .int .i64 0, .int .i64 0, .nilFunc].toArray 114))
        go_simp
        refine hK _ _ trivial (fun hS => ?_)
        clear hK K
        generalize wz.alloc (.cells #[.int .u8 0, .bool false, .int .i64 0, .int .i64 0, .bool false, .int .i64 0, .int .i64 0, .int .i64 0, .nilFunc] 114) = wz at *
        try simp only [List.getElem_toArray, List.getElem_cons_zero, List.getElem_cons_succ, Act.put, List.setIfInBounds_toArray, List.set_cons_zero, List.set_cons_succ]
        refine wpAnyH_ready (rs := [5]) (by kernel_rfl) (by simp) (AllReadyH.cons rfl (fun K hK => ?_) AllReadyH.nil)
        go_simp
        (with_reducible refine (take_any HI.out.row HI.out.row.ltN).mono ?_)
        rintro _ wz ⟨rfl, r5, a5⟩
        have HI := Lib.hid (HI.out.took r5 a5)
        first | (have HK := Lib.hid (show Bk wz _ _ _ from (a5.block _ HK.out.lt HN.out).trans HK.out)) | skip
        go_simp
        refine hK _ _ trivial (fun hS => ?_)
        clear hK K
        try simp only [List.getElem_toArray, List.getElem_cons_zero, List.getElem_cons_succ, Act.put, List.setIfInBounds_toArray, List.set_cons_zero, List.set_cons_succ]
        refine wpAnyH_ready (rs := [6]) (by kernel_rfl) (by simp) (AllReadyH.cons rfl (fun K hK => ?_) AllReadyH.nil)
        have hl := HI.out.ps.ways.look2 wayTy s0 HS0.out zeroWay
        rw [HW.out] at hl
        simp only [Option.map_some, Option.getD_some, Option.isSome_some] at hl
        unfold nmV kV at hl
        go_simp
        refine hK _ _ trivial (fun hS => ?_)
        clear hK K hl
        try simp only [List.getElem_toArray, List.getElem_cons_zero, List.getElem_cons_succ, Act.put, List.setIfInBounds_toArray, List.set_cons_zero, List.set_cons_succ]
        refine wpAnyH_take (i := 7) (v := ?_) rfl (by kernel_rfl) (by kernel_rfl) (by kernel_rfl) (fun _ _ _ h => h) (Or.inl ⟨by rfl, ?_⟩) hS ?_
        rotate_left 1
        · intro w' hSw
          go_simp <;> with_reducible rfl
        try simp only [List.getElem_toArray, List.getElem_cons_zero, List.getElem_cons_succ, Act.put, List.setIfInBounds_toArray, List.set_cons_zero, List.set_cons_succ]
        refine wpAnyH_take (i := 8) (v := ?_) rfl (by kernel_rfl) (by kernel_rfl) (by kernel_rfl) (fun _ _ _ h => h) (Or.inl ⟨by rfl, ?_⟩) hS ?_
        rotate_left 1
        · intro w' hSw
          go_simp <;> with_reducible rfl
        try simp only [List.getElem_toArray, List.getElem_cons_zero, List.getElem_cons_succ, Act.put, List.setIfInBounds_toArray, List.set_cons_zero, List.set_cons_succ]
        refine wpAnyH_take (i := 9) (v := ?_) rfl (by kernel_rfl) (by kernel_rfl) (by kernel_rfl) (fun _ _ _ h => h) (Or.inl ⟨by rfl, ?_⟩) hS ?_
        rotate_left 1
        · intro w' hSw
          go_simp <;> with_reducible rfl
        try simp only [List.getElem_toArray, List.getElem_cons_zero, List.getElem_cons_succ, Act.put, List.setIfInBounds_toArray, List.set_cons_zero, List.set_cons_succ]
        refine wpAnyH_ready (rs := [11]) (by kernel_rfl) (by simp) (AllReadyH.cons rfl (fun K hK => ?_) AllReadyH.nil)
        obtain ⟨wq, hwq, kq, aq⟩ := bk_write (us := ivV ⟨op, nr, dd, ds, du, dof, dm, dz⟩ ++ [fnV (kindF k)]) HK.out rfl (by intro v hv; simp [ivV, fnV] at hv; rcases hv with rfl | rfl | rfl | rfl | rfl | rfl | rfl | rfl | rfl <;> rfl)
        have HI := Lib.hid (HI.out.wrote HF.out.1 HN.out HF.out.2 aq)
        have HK := Lib.hid kq
        unfold wayV
        go_simp
        clear hwq
        refine hK _ _ trivial (fun hS => ?_)
        clear hK K kq aq
        try simp only [List.getElem_toArray, List.getElem_cons_zero, List.getElem_cons_succ, Act.put, List.setIfInBounds_toArray, List.set_cons_zero, List.set_cons_succ]
        refine wpAnyH_ready (rs := [12]) (by kernel_rfl) (by simp) (AllReadyH.cons rfl (fun K hK => ?_) AllReadyH.nil)
        go_simp
        refine hK _ _ trivial (fun hS => ?_)
        clear hK K
        try simp only [List.getElem_toArray, List.getElem_cons_zero, List.getElem_cons_succ, Act.put, List.setIfInBounds_toArray, List.set_cons_zero, List.set_cons_succ]
        refine wpAnyH_done (by kernel_rfl) ?_ _
        go_wp2_with fail
        go_meet
        exact ⟨_, rfl, rfl, HI, HK, Lib.hid ⟨HF.out.1, HN.out⟩⟩
    · go_simp
      (with_reducible refine (take_any HI.out.row HI.out.row.ltN).mono ?_)
      rintro _ wz ⟨rfl, r5, a5⟩
      have HI := Lib.hid (HI.out.took r5 a5)
      first | (have HK := Lib.hid (show Bk wz _ _ _ from (a5.block _ HK.out.lt HN.out).trans HK.out)) | skip
      go_simp
      refine hK _ _ trivial (fun hS => ?_)
      clear hK K
      try simp only [List.getElem_toArray, List.getElem_cons_zero, List.getElem_cons_succ, Act.put, List.setIfInBounds_toArray, List.set_cons_zero, List.set_cons_succ]
      refine wpAnyH_ready (rs := [3, 10]) (by kernel_rfl) (by simp) (AllReadyH.cons rfl (fun K hK => ?_) (AllReadyH.cons rfl (fun K hK => ?_) AllReadyH.nil))
      · have cw := HI.out.ways
        go_simp
        refine hK _ _ trivial (fun hS => ?_)
        clear hK K cw
        try simp only [List.getElem_toArray, List.getElem_cons_zero, List.getElem_cons_succ, Act.put, List.setIfInBounds_toArray, List.set_cons_zero, List.set_cons_succ]
        refine wpAnyH_ready (rs := [6, 10]) (by kernel_rfl) (by simp) (AllReadyH.cons rfl (fun K hK => ?_) (AllReadyH.cons rfl (fun K hK => ?_) AllReadyH.nil))
        · have hl := HI.out.ps.ways.look2 wayTy s0 HS0.out zeroWay
          rw [HW.out] at hl
          simp only [Option.map_some, Option.getD_some, Option.isSome_some] at hl
          unfold nmV kV at hl
          go_simp
          refine hK _ _ trivial (fun hS => ?_)
          clear hK K hl
          try simp only [List.getElem_toArray, List.getElem_cons_zero, List.getElem_cons_succ, Act.put, List.setIfInBounds_toArray, List.set_cons_zero, List.set_cons_succ]
          refine wpAnyH_take (i := 7) (v := ?_) rfl (by kernel_rfl) (by kernel_rfl) (by kernel_rfl) (fun _ _ _ h => h) (Or.inl ⟨by rfl, ?_⟩) hS ?_
          rotate_left 1
          · intro w' hSw
            go_simp <;> with_reducible rfl
          try simp only [List.getElem_toArray, List.getElem_cons_zero, List.getElem_cons_succ, Act.put, List.setIfInBounds_toArray, List.set_cons_zero, List.set_cons_succ]
          refine wpAnyH_take (i := 8) (v := ?_) rfl (by kernel_rfl) (by kernel_rfl) (by kernel_rfl) (fun _ _ _ h => h) (Or.inl ⟨by rfl, ?_⟩) hS ?_
          rotate_left 1
          · intro w' hSw
            go_simp <;> with_reducible rfl
          try simp only [List.getElem_toArray, List.getElem_cons_zero, List.getElem_cons_succ, Act.put, List.setIfInBounds_toArray, List.set_cons_zero, List.set_cons_succ]
          refine wpAnyH_take (i := 9) (v := ?_) rfl (by kernel_rfl) (by kernel_rfl) (by kernel_rfl) (fun _ _ _ h => h) (Or.inl ⟨by rfl, ?_⟩) hS ?_
          rotate_left 1
          · intro w' hSw
            go_simp <;> with_reducible rfl
          try simp only [List.getElem_toArray, List.getElem_cons_zero, List.getElem_cons_succ, Act.put, List.setIfInBounds_toArray, List.set_cons_zero, List.set_cons_succ]
          refine wpAnyH_ready (rs := [10]) (by kernel_rfl) (by simp) (AllReadyH.cons rfl (fun K hK => ?_) AllReadyH.nil)
          have HN := Lib.hid (show wz.heap.size ≠ N by have := HI.out.row.ltN; omega)
          have HF := Lib.hid (And.intro HI.out.low.size HI.out.sz)
          have HK := Lib.hid (Bk.new wz 114 [.int .u8 0, .bool false, .int .i64 0, .int .i64 0, .bool false, .int .i64 0, .int .i64 0, .int .i64 0, .nilFunc])
          have HI := Lib.hid (HI.out.alloc (.cells [.int .u8 0, .bool false, .int .i64 0, .int .i64 0, .bool false, .int .i64 0, .int .i64 0, .int .i64 0, .nilFunc].toArray 114))
          go_simp
          refine hK _ _ trivial (fun hS => ?_)
          clear hK K
          generalize wz.alloc (.cells #[.int .u8 0, .bool false, .int .i64 0, .int .i64 0, .bool false, .int .i64 0, .int .i64 0, .int .i64 0, .nilFunc] 114) = wz at *
          try simp only [List.getElem_toArray, List.getElem_cons_zero, List.getElem_cons_succ, Act.put, List.setIfInBounds_toArray, List.set_cons_zero, List.set_cons_succ]
          refine wpAnyH_ready (rs := [11]) (by kernel_rfl) (by simp) (AllReadyH.cons rfl (fun K hK => ?_) AllReadyH.nil)
          obtain ⟨wq, hwq, kq, aq⟩ := bk_write (us := ivV ⟨op, nr, dd, ds, du, dof, dm, dz⟩ ++ [fnV (kindF k)]) HK.out rfl (by intro v hv; simp [ivV, fnV] at hv; rcases hv with rfl | rfl | rfl | rfl | rfl | rfl | rfl | rfl | rfl <;> rfl)
          have HI := Lib.hid (HI.out.wrote HF.out.1 HN.out HF.out.2 aq)
          have HK := Lib.hid kq
          unfold wayV
          go_simp
          clear hwq
          refine hK _ _ trivial (fun hS => ?_)
          clear hK K kq aq
          try simp only [List.getElem_toArray, List.getElem_cons_zero, List.getElem_cons_succ, Act.put, List.setIfInBounds_toArray, List.set_cons_zero, List.set_cons_succ]
          refine wpAnyH_ready (rs := [12]) (by kernel_rfl) (by simp) (AllReadyH.cons rfl (fun K hK => ?_) AllReadyH.nil)
          go_simp
          refine hK _ _ trivial (fun hS => ?_)
          clear hK K
          try simp only [List.getElem_toArray, List.getElem_cons_zero, List.getElem_cons_succ, Act.put, List.setIfInBounds_toArray, List.set_cons_zero, List.set_cons_succ]
          refine wpAnyH_done (by kernel_rfl) ?_ _
          go_wp2_with fail
          go_meet
          exact ⟨_, rfl, rfl, HI, HK, Lib.hid ⟨HF.out.1, HN.out⟩⟩
        · have HN := Lib.hid (show wz.heap.size ≠ N by have := HI.out.row.ltN; omega)
          have HF := Lib.hid (And.intro HI.out.low.size HI.out.sz)
          have HK := Lib.hid (Bk.new wz 114 [.int .u8 0, .bool false, .int .i64 0, .int .i64 0, .bool false, .int .i64 0, .int .i64 0, .int .i64 0, .nilFunc])
          have HI := Lib.hid (HI.out.alloc (.cells [.int .u8 0, .bool false, .int .i64 0, .int .i64 0, .bool false, .int .i64 0, .int .i64 0, .int .i64 0, .nilFunc].toArray 114))
          go_simp
          refine hK _ _ trivial (fun hS => ?_)
          clear hK K
          generalize wz.alloc (.cells #[.int .u8 0, .bool false, .int .i64 0, .int .i64 0, .bool false, .int .i64 0, .int .i64 0, .int .i64 0, .nilFunc] 114) = wz at *
          try simp only [List.getElem_toArray, List.getElem_cons_zero, List.getElem_cons_succ, Act.put, List.setIfInBounds_toArray, List.set_cons_zero, List.set_cons_succ]
          refine wpAnyH_ready (rs := [6]) (by kernel_rfl) (by simp) (AllReadyH.cons rfl (fun K hK => ?_) AllReadyH.nil)
          have hl := HI.out.ps.ways.look2 wayTy s0 HS0.out zeroWay
          rw [HW.out] at hl
          simp only [Option.map_some, Option.getD_some, Option.isSome_some] at hl
          unfold nmV kV at hl
          go_simp
          refine hK _ _ trivial (fun hS => ?_)
          clear hK K hl
          try simp only [List.getElem_toArray, List.getElem_cons_zero, List.getElem_cons_succ, Act.put, List.setIfInBounds_toArray, List.set_cons_zero, List.set_cons_succ]
          refine wpAnyH_take (i := 7) (v := ?_) rfl (by kernel_rfl) (by kernel_rfl) (by kernel_rfl) (fun _ _ _ h => h) (Or.inl ⟨by rfl, ?_⟩) hS ?_
          rotate_left 1
          · intro w' hSw
            go_simp <;> with_reducible rfl
          try simp only [List.getElem_toArray, List.getElem_cons_zero, List.getElem_cons_succ, Act.put, List.setIfInBounds_toArray, List.set_cons_zero, List.set_cons_succ]
          refine wpAnyH_take (i := 8) (v := ?_) rfl (by kernel_rfl) (by kernel_rfl) (by kernel_rfl) (fun _ _ _ h => h) (Or.inl ⟨by rfl, ?_⟩) hS ?_
          rotate_left 1
          · intro w' hSw
            go_simp <;> with_reducible rfl
          try simp only [List.getElem_toArray, List.getElem_cons_zero, List.getElem_cons_succ, Act.put, List.setIfInBounds_toArray, List.set_cons_zero, List.set_cons_succ]
          refine wpAnyH_take (i := 9) (v := ?_) rfl (by kernel_rfl) (by kernel_rfl) (by kernel_rfl) (fun _ _ _ h => h) (Or.inl ⟨by rfl, ?_⟩) hS ?_
          rotate_left 1
          · intro w' hSw
            go_simp <;> with_reducible rfl
          try simp only [List.getElem_toArray, List.getElem_cons_zero, List.getElem_cons_succ, Act.put, List.setIfInBounds_toArray, List.set_cons_zero, List.set_cons_succ]
          refine wpAnyH_ready (rs := [11]) (by kernel_rfl) (by simp) (AllReadyH.cons rfl (fun K hK => ?_) AllReadyH.nil)
          obtain ⟨wq, hwq, kq, aq⟩ := bk_write (us := ivV ⟨op, nr, dd, ds, du, dof, dm, dz⟩ ++ [fnV (kindF k)]) HK.out rfl (by intro v hv; simp [ivV, fnV] at hv; rcases hv with rfl | rfl | rfl | rfl | rfl | rfl | rfl | rfl | rfl <;> rfl)
          have HI := Lib.hid (HI.out.wrote HF.out.1 HN.out HF.out.2 aq)
          have HK := Lib.hid kq
          unfold wayV
          go_simp
          clear hwq
          refine hK _ _ trivial (fun hS => ?_)
          clear hK K kq aq
          try simp only [List.getElem_toArray, List.getElem_cons_zero, List.getElem_cons_succ, Act.put, List.setIfInBounds_toArray, List.set_cons_zero, List.set_cons_succ]
          refine wpAnyH_ready (rs := [12]) (by kernel_rfl) (by simp) (AllReadyH.cons rfl (fun K hK => ?_) AllReadyH.nil)
          go_simp
          refine hK _ _ trivial (fun hS => ?_)
          clear hK K
          try simp only [List.getElem_toArray, List.getElem_cons_zero, List.getElem_cons_succ, Act.put, List.setIfInBounds_toArray, List.set_cons_zero, List.set_cons_succ]
          refine wpAnyH_done (by kernel_rfl) ?_ _
          go_wp2_with fail
          go_meet
          exact ⟨_, rfl, rfl, HI, HK, Lib.hid ⟨HF.out.1, HN.out⟩⟩
      · have HN := Lib.hid (show wz.heap.size ≠ N by have := HI.out.row.ltN; omega)
        have HF := Lib.hid (And.intro HI.out.low.size HI.out.sz)
        have HK := Lib.hid (Bk.new wz 114 [.int .u8 0, .bool false, .int .i64 0, .int .i64 0, .bool false, .int .i64 0, .int .i64 0, .int .i64 0, .nilFunc])
        have HI := Lib.hid (HI.out.alloc (.cells [.int .u8 0, .bool false, .int .i64 0, .int .i64 0, .bool false, .int .i64 0, .int .i64 0, .int .i64 0, .nilFunc].toArray 114))
        go_simp
        refine hK _ _ trivial (fun hS => ?_)
        clear hK K
        generalize wz.alloc (.cells #[.int .u8 0, .bool false, .int .i64 0, .int .i64 0, .bool false, .int .i64 0, .int .i64 0, .int .i64 0, .nilFunc] 114) = wz at *
        try simp only [List.getElem_toArray, List.getElem_cons_zero, List.getElem_cons_succ, Act.put, List.setIfInBounds_toArray, List.set_cons_zero, List.set_cons_succ]
        refine wpAnyH_ready (rs := [3]) (by kernel_rfl) (by simp) (AllReadyH.cons rfl (fun K hK => ?_) AllReadyH.nil)
        have cw := HI.out.ways
        go_simp
        refine hK _ _ trivial (fun hS => ?_)
        clear hK K cw
        try simp only [List.getElem_toArray, List.getElem_cons_zero, List.getElem_cons_succ, Act.put, List.setIfInBounds_toArray, List.set_cons_zero, List.set_cons_succ]
        refine wpAnyH_ready (rs := [6]) (by kernel_rfl) (by simp) (AllReadyH.cons rfl (fun K hK => ?_) AllReadyH.nil)
        have hl := HI.out.ps.ways.look2 wayTy s0 HS0.out zeroWay
        rw [HW.out] at hl
        simp only [Option.map_some, Option.getD_some, Option.isSome_some] at hl
        unfold nmV kV at hl
        go_simp
        refine hK _ _ trivial (fun hS => ?_)
        clear hK K hl
        try simp only [List.getElem_toArray, List.getElem_cons_zero, List.getElem_cons_succ, Act.put, List.setIfInBounds_toArray, List.set_cons_zero, List.set_cons_succ]
        refine wpAnyH_take (i := 7) (v := ?_) rfl (by kernel_rfl) (by kernel_rfl) (by kernel_rfl) (fun _ _ _ h => h) (Or.inl ⟨by rfl, ?_⟩) hS ?_
        rotate_left 1
        · intro w' hSw
          go_simp <;> with_reducible rfl
        try simp only [List.getElem_toArray, List.getElem_cons_zero, List.getElem_cons_succ, Act.put, List.setIfInBounds_toArray, List.set_cons_zero, List.set_cons_succ]
        refine wpAnyH_take (i := 8) (v := ?_) rfl (by kernel_rfl) (by kernel_rfl) (by kernel_rfl) (fun _ _ _ h => h) (Or.inl ⟨by rfl, ?_⟩) hS ?_
        rotate_left 1
        · intro w' hSw
          go_simp <;> with_reducible rfl
        try simp only [List.getElem_toArray, List.getElem_cons_zero, List.getElem_cons_succ, Act.put, List.setIfInBounds_toArray, List.set_cons_zero, List.set_cons_succ]
        refine wpAnyH_take (i := 9) (v := ?_) rfl (by kernel_rfl) (by kernel_rfl) (by kernel_rfl) (fun _ _ _ h => h) (Or.inl ⟨by rfl, ?_⟩) hS ?_
        rotate_left 1
        · intro w' hSw
          go_simp <;> with_reducible rfl
        try simp only [List.getElem_toArray, List.getElem_cons_zero, List.getElem_cons_succ, Act.put, List.setIfInBounds_toArray, List.set_cons_zero, List.set_cons_succ]
        refine wpAnyH_ready (rs := [11]) (by kernel_rfl) (by simp) (AllReadyH.cons rfl (fun K hK => ?_) AllReadyH.nil)
        obtain ⟨wq, hwq, kq, aq⟩ := bk_write (us := ivV ⟨op, nr, dd, ds, du, dof, dm, dz⟩ ++ [fnV (kindF k)]) HK.out rfl (by intro v hv; simp [ivV, fnV] at hv; rcases hv with rfl | rfl | rfl | rfl | rfl | rfl | rfl | rfl | rfl <;> rfl)
        have HI := Lib.hid (HI.out.wrote HF.out.1 HN.out HF.out.2 aq)
        have HK := Lib.hid kq
        unfold wayV
        go_simp
        clear hwq
        refine hK _ _ trivial (fun hS => ?_)
        clear hK K kq aq
        try simp only [List.getElem_toArray, List.getElem_cons_zero, List.getElem_cons_succ, Act.put, List.setIfInBounds_toArray, List.set_cons_zero, List.set_cons_succ]
        refine wpAnyH_ready (rs := [12]) (by kernel_rfl) (by simp) (AllReadyH.cons rfl (fun K hK => ?_) AllReadyH.nil)
        go_simp
        refine hK _ _ trivial (fun hS => ?_)
        clear hK K
        try simp only [List.getElem_toArray, List.getElem_cons_zero, List.getElem_cons_succ, Act.put, List.setIfInBounds_toArray, List.set_cons_zero, List.set_cons_succ]
        refine wpAnyH_done (by kernel_rfl) ?_ _
        go_wp2_with fail
        go_meet
        exact ⟨_, rfl, rfl, HI, HK, Lib.hid ⟨HF.out.1, HN.out⟩⟩
    · have HN := Lib.hid (show wz.heap.size ≠ N by have := HI.out.row.ltN; omega)
      have HF := Lib.hid (And.intro HI.out.low.size HI.out.sz)
      have HK := Lib.hid (Bk.new wz 114 [.int .u8 0, .bool false, .int .i64 0, .int .i64 0, .bool false, .int .i64 0, .int .i64 0, .int .i64 0, .nilFunc])
      have HI := Lib.hid (HI.out.alloc (.cells [.int .u8 0, .bool false, .int .i64 0, .int .i64 0, .bool false, .int .i64 0, .int .i64 0, .int .i64 0, .nilFunc].toArray 114))
      go_simp
      refine hK _ _ trivial (fun hS => ?_)
      clear hK K
      generalize wz.alloc (.cells #[.int .u8 0, .bool false, .int .i64 0, .int .i64 0, .bool false, .int .i64 0, .int .i64 0, .int .i64 0, .nilFunc] 114) = wz at *
      try simp only [List.getElem_toArray, List.getElem_cons_zero, List.getElem_cons_succ, Act.put, List.setIfInBounds_toArray, List.set_cons_zero, List.set_cons_succ]
      refine wpAnyH_ready (rs := [3, 5]) (by kernel_rfl) (by simp) (AllReadyH.cons rfl (fun K hK => ?_) (AllReadyH.cons rfl (fun K hK => ?_) AllReadyH.nil))
      · have cw := HI.out.ways
        go_simp
        refine hK _ _ trivial (fun hS => ?_)
        clear hK K cw
        try simp only [List.getElem_toArray, List.getElem_cons_zero, List.getElem_cons_succ, Act.put, List.setIfInBounds_toArray, List.set_cons_zero, List.set_cons_succ]
        refine wpAnyH_ready (rs := [5]) (by kernel_rfl) (by simp) (AllReadyH.cons rfl (fun K hK => ?_) AllReadyH.nil)
        go_simp
        (with_reducible refine (take_any HI.out.row HI.out.row.ltN).mono ?_)
        rintro _ wz ⟨rfl, r5, a5⟩
        have HI := Lib.hid (HI.out.took r5 a5)
        first | (have HK := Lib.hid (show Bk wz _ _ _ from (a5.block _ HK.out.lt HN.out).trans HK.out)) | skip
        go_simp
        refine hK _ _ trivial (fun hS => ?_)
        clear hK K
        try simp only [List.getElem_toArray, List.getElem_cons_zero, List.getElem_cons_succ, Act.put, List.setIfInBounds_toArray, List.set_cons_zero, List.set_cons_succ]
        refine wpAnyH_ready (rs := [6]) (by kernel_rfl) (by simp) (AllReadyH.cons rfl (fun K hK => ?_) AllReadyH.nil)
        have hl := HI.out.ps.ways.look2 wayTy s0 HS0.out zeroWay
        rw [HW.out] at hl
        simp only [Option.map_some, Option.getD_some, Option.isSome_some] at hl
        unfold nmV kV at hl
        go_simp
        refine hK _ _ trivial (fun hS => ?_)
        clear hK K hl
        try simp only [List.getElem_toArray, List.getElem_cons_zero, List.getElem_cons_succ, Act.put, List.setIfInBounds_toArray, List.set_cons_zero, List.set_cons_succ]
        refine wpAnyH_take (i := 7) (v := ?_) rfl (by kernel_rfl) (by kernel_rfl) (by kernel_rfl) (fun _ _ _ h => h) (Or.inl ⟨by rfl, ?_⟩) hS ?_
        rotate_left 1
        · intro w' hSw
          go_simp <;> with_reducible rfl
        try simp only [List.getElem_toArray, List.getElem_cons_zero, List.getElem_cons_succ, Act.put, List.setIfInBounds_toArray, List.set_cons_zero, List.set_cons_succ]
        refine wpAnyH_take (i := 8) (v := ?_) rfl (by kernel_rfl) (by kernel_rfl) (by kernel_rfl) (fun _ _ _ h => h) (Or.inl ⟨by rfl, ?_⟩) hS ?_
        rotate_left 1
        · intro w' hSw
          go_simp <;> with_reducible rfl
        try simp only [List.getElem_toArray, List.getElem_cons_zero, List.getElem_cons_succ, Act.put, List.setIfInBounds_toArray, List.set_cons_zero, List.set_cons_succ]
        refine wpAnyH_take (i := 9) (v := ?_) rfl (by kernel_rfl) (by kernel_rfl) (by kernel_rfl) (fun _ _ _ h => h) (Or.inl ⟨by rfl, ?_⟩) hS ?_
        rotate_left 1
        · intro w' hSw
          go_simp <;> with_reducible rfl
        try simp only [List.getElem_toArray, List.getElem_cons_zero, List.getElem_cons_succ, Act.put, List.setIfInBounds_toArray, List.set_cons_zero, List.set_cons_succ]
        refine wpAnyH_ready (rs := [11]) (by kernel_rfl) (by simp) (AllReadyH.cons rfl (fun K hK => ?_) AllReadyH.nil)
        obtain ⟨wq, hwq, kq, aq⟩ := bk_write (us := ivV ⟨op, nr, dd, ds, du, dof, dm, dz⟩ ++ [fnV (kindF k)]) HK.out rfl (by intro v hv; simp [ivV, fnV] at hv; rcases hv with rfl | rfl | rfl | rfl | rfl | rfl | rfl | rfl | rfl <;> rfl)
        have HI := Lib.hid (HI.out.wrote HF.out.1 HN.out HF.out.2 aq)
        have HK := Lib.hid kq
        unfold wayV
        go_simp
        clear hwq
        refine hK _ _ trivial (fun hS => ?_)
        clear hK K kq aq
        try simp only [List.getElem_toArray, List.getElem_cons_zero, List.getElem_cons_succ, Act.put, List.setIfInBounds_toArray, List.set_cons_zero, List.set_cons_succ]
        refine wpAnyH_ready (rs := [12]) (by kernel_rfl) (by simp) (AllReadyH.cons rfl (fun K hK => ?_) AllReadyH.nil)
        go_simp
        refine hK _ _ trivial (fun hS => ?_)
        clear hK K
        try simp only [List.getElem_toArray, List.getElem_cons_zero, List.getElem_cons_succ, Act.put, List.setIfInBounds_toArray, List.set_cons_zero, List.set_cons_succ]
        refine wpAnyH_done (by kernel_rfl) ?_ _
        go_wp2_with fail
        go_meet
        exact ⟨_, rfl, rfl, HI, HK, Lib.hid ⟨HF.out.1, HN.out⟩⟩
      · go_simp
        (with_reducible refine (take_any HI.out.row HI.out.row.ltN).mono ?_)
        rintro _ wz ⟨rfl, r5, a5⟩
        have HI := Lib.hid (HI.out.took r5 a5)
        first | (have HK := Lib.hid (show Bk wz _ _ _ from (a5.block _ HK.out.lt HN.out).trans HK.out)) | skip
        go_simp
        refine hK _ _ trivial (fun hS => ?_)
        clear hK K
        try simp only [List.getElem_toArray, List.getElem_cons_zero, List.getElem_cons_succ, Act.put, List.setIfInBounds_toArray, List.set_cons_zero, List.set_cons_succ]
        refine wpAnyH_ready (rs := [3]) (by kernel_rfl) (by simp) (AllReadyH.cons rfl (fun K hK => ?_) AllReadyH.nil)
        have cw := HI.out.ways
        go_simp
        refine hK _ _ trivial (fun hS => ?_)
        clear hK K cw
        try simp only [List.getElem_toArray, List.getElem_cons_zero, List.getElem_cons_succ, Act.put, List.setIfInBounds_toArray, List.set_cons_zero, List.set_cons_succ]
        refine wpAnyH_ready (rs := [6]) (by kernel_rfl) (by simp) (AllReadyH.cons rfl (fun K hK => ?_) AllReadyH.nil)
        have hl := HI.out.ps.ways.look2 wayTy s0 HS0.out zeroWay
        rw [HW.out] at hl
        simp only [Option.map_some, Option.getD_some, Option.isSome_some] at hl
        unfold nmV kV at hl
        go_simp
        refine hK _ _ trivial (fun hS => ?_)
        clear hK K hl
        try simp only [List.getElem_toArray, List.getElem_cons_zero, List.getElem_cons_succ, Act.put, List.setIfInBounds_toArray, List.set_cons_zero, List.set_cons_succ]
        refine wpAnyH_take (i := 7) (v := ?_) rfl (by kernel_rfl) (by kernel_rfl) (by kernel_rfl) (fun _ _ _ h => h) (Or.inl ⟨by rfl, ?_⟩) hS ?_
        rotate_left 1
        · intro w' hSw
          go_simp <;> with_reducible rfl
        try simp only [List.getElem_toArray, List.getElem_cons_zero, List.getElem_cons_succ, Act.put, List.setIfInBounds_toArray, List.set_cons_zero, List.set_cons_succ]
        refine wpAnyH_take (i := 8) (v := ?_) rfl (by kernel_rfl) (by kernel_rfl) (by kernel_rfl) (fun _ _ _ h => h) (Or.inl ⟨by rfl, ?_⟩) hS ?_
        rotate_left 1
        · intro w' hSw
          go_simp <;> with_reducible rfl
        try simp only [List.getElem_toArray, List.getElem_cons_zero, List.getElem_cons_succ, Act.put, List.setIfInBounds_toArray, List.set_cons_zero, List.set_cons_succ]
        refine wpAnyH_take (i := 9) (v := ?_) rfl (by kernel_rfl) (by kernel_rfl) (by kernel_rfl) (fun _ _ _ h => h) (Or.inl ⟨by rfl, ?_⟩) hS ?_
        rotate_left 1
        · intro w' hSw
          go_simp <;> with_reducible rfl
        try simp only [List.getElem_toArray, List.getElem_cons_zero, List.getElem_cons_succ, Act.put, List.setIfInBounds_toArray, List.set_cons_zero, List.set_cons_succ]
        refine wpAnyH_ready (rs := [11]) (by kernel_rfl) (by simp) (AllReadyH.cons rfl (fun K hK => ?_) AllReadyH.nil)
        obtain ⟨wq, hwq, kq, aq⟩ := bk_write (us := ivV ⟨op, nr, dd, ds, du, dof, dm, dz⟩ ++ [fnV (kindF k)]) HK.out rfl (by intro v hv; simp [ivV, fnV] at hv; rcases hv with rfl | rfl | rfl | rfl | rfl | rfl | rfl | rfl | rfl <;> rfl)
        have HI := Lib.hid (HI.out.wrote HF.out.1 HN.out HF.out.2 aq)
        have HK := Lib.hid kq
        unfold wayV
        go_simp
        clear hwq
        refine hK _ _ trivial (fun hS => ?_)
        clear hK K kq aq
        try simp only [List.getElem_toArray, List.getElem_cons_zero, List.getElem_cons_succ, Act.put, List.setIfInBounds_toArray, List.set_cons_zero, List.set_cons_succ]
        refine wpAnyH_ready (rs := [12]) (by kernel_rfl) (by simp) (AllReadyH.cons rfl (fun K hK => ?_) AllReadyH.nil)
        go_simp
        refine hK _ _ trivial (fun hS => ?_)
        clear hK K
        try simp only [List.getElem_toArray, List.getElem_cons_zero, List.getElem_cons_succ, Act.put, List.setIfInBounds_toArray, List.set_cons_zero, List.set_cons_succ]
        refine wpAnyH_done (by kernel_rfl) ?_ _
        go_wp2_with fail
        go_meet
        exact ⟨_, rfl, rfl, HI, HK, Lib.hid ⟨HF.out.1, HN.out⟩⟩
  case rest =>
    obtain ⟨bb, rfl, rfl, HI3, HK3, HB3⟩ := hcut
    rename_i wx
    have HR4 := Lib.hid (HI3.out.reader ⟨op, nr, dd, ds, du, dof, dm, dz⟩)
    have v8' : (wc.alloc (.cells (rdV N ⟨op, nr, dd, ds, du, dof, dm, dz⟩ []).toArray 126)).cell? ⟨bb, 8, none⟩ = some (.func (.func (kindF k)) #[] #[]) := (HK3.out.below ((Below.refl _ wc).alloc (Nat.le_refl _) _) HK3.out.lt).cell 8
    have HC := Lib.hid (rest_any HR4.out.1 ((hv.below HI3.out.low hB).below ((Below.refl _ wc).alloc (Nat.le_refl _) _) (Nat.le_trans hB HI3.out.low.size)) (Nat.le_trans hB HR4.out.2.low.size) (Nat.le_trans hB HI3.out.lo) (Nat.le_trans hB HI3.out.low.size) k)
    simp only [rdV, ivV, List.cons_append, List.nil_append] at HC
    have v0 := HK3.out.cell 0
    have v1 := HK3.out.cell 1
    have v2 := HK3.out.cell 2
    have v3 := HK3.out.cell 3
    have v4 := HK3.out.cell 4
    have v5 := HK3.out.cell 5
    have v6 := HK3.out.cell 6
    have v7 := HK3.out.cell 7
    have v8 := HK3.out.cell 8
    simp only [ivV, List.cons_append, List.nil_append, List.getElem?_cons_zero, List.getElem?_cons_succ] at v0 v1 v2 v3 v4 v5 v6 v7 v8
    unfold fnV at v8
    simp only [rdV, ivV, List.cons_append, List.nil_append] at v8'
    go_upto_region 6 with fail
    go_cut [9] (fun pr wy => ∃ R i' lb r, pr = .pointer (some ⟨R, 0, none⟩) ∧ Hid (restT ⟨op, nr, dd, ds, du, dof, dm, dz⟩ t k = some (i', lb, r)) ∧ Hid (RdAt wy R N (fun b => N < b ∧ b < w2.heap.size) i' lb r n) ∧ Hid (LJ w D P Wm M R N st vo vj i' lb wy))
    case first =>
      clear v0 v1 v2 v3 v4 v5 v6 v7 v8
      cases k
      all_goals
        simp only [kindF] at HC v8'
        go_wp2_with fail
        (with_reducible refine HC.out.mono ?_)
        intro x wy hx
        rcases hx.either with ⟨i', lb, r, hT, rfl, hR, hA⟩ | ⟨hT, rfl, hA⟩
        · go_wp2_with fail
          go_meet
          exact ⟨_, i', lb, r, rfl, Lib.hid hT, Lib.hid hR, Lib.hid (HR4.out.2.read hR hA HI3.out.low.size)⟩
        · refine ⟨rfl, ?_⟩
          obtain rfl := HM.out
          exact LineR.err (HW0.out.1 hT) (HR4.out.2.fell hA HI3.out.low.size HD.out)
    case rest =>
      clear v0 v1 v2 v3 v4 v5 v6 v7 v8 v8' HC
      obtain ⟨R, i', lb, r, rfl, HT, HR, HJ⟩ := hcut
      have HW1 := Lib.hid (HW0.out.2 i' lb r HT.out)
      clear HT HW0 HI3 HK3 HB3 HR4
      have HBD := Lib.hid (bad_any HR.out.row)
      have HRW := Lib.hid HR.out.row
      obtain ⟨A2, c2, hb2, -⟩ := HR.out.row.row
      have n0 := hb2.cell 0
      simp only [List.getElem?_cons_zero] at n0
      clear hb2 HR
      have HRT := Lib.hid (right_any i')
      obtain ⟨e1, e2, e3, e4, e5, e6, e7, e8, e9⟩ := HJ.out.cells
      obtain ⟨Ao, co, rfl⟩ := own_slice HJ.out.ps.out
      have p0 := HJ.out.ps.bk.cell 0
      simp only [List.getElem?_cons_zero] at p0
      have HBL := Lib.hid HJ.out.low
      by_cases hr : r = []
      · subst hr
        simp only [List.length_nil] at n0
        by_cases hg : rightP i' = true
        · rw [hg] at HRT
          have HW2 := Lib.hid (HW1.out.2.2 rfl hg)
          clear hg HW1
          obtain ⟨o1, o2, o3, o4, o5, o6, o7, o8⟩ := i'
          unfold ivV at HRT
          by_cases h4 : st.out.length = 4096
          · have d4 : decide ((st.out.length : Int) = 4096) = true := decide_eq_true (by omega)
            have HE := Lib.hid (HW2.out.1 h4)
            clear HW2
            have q4 : (st.out.length : Int) = 4096 := by omega
            clear h4
            go_wp2_with fail
            (with_reducible refine (HRT.out _).mono ?_)
            rintro _ wz ⟨rfl, bz⟩
            have p1 := (HJ.out.below bz).ps.bk.cell 0
            simp only [List.getElem?_cons_zero] at p1
            have HBL := Lib.hid (HJ.out.below bz).low
            clear HJ bz
            go_wp2_with fail
            (with_reducible refine (throw_any 3 n wz).mono ?_)
            rintro _ wq ⟨rfl, rfl⟩
            refine ⟨rfl, ?_⟩
            obtain rfl := HM.out
            exact LineR.err HE.out HBL.out
          · have d4 : decide ((st.out.length : Int) = 4096) = false := decide_eq_false (by omega)
            have q4 : ¬ (st.out.length : Int) = 4096 := by omega
            have HE := Lib.hid (HW2.out.2 h4)
            clear HW2 h4
            go_wp2_with fail
            (with_reducible refine (HRT.out _).mono ?_)
            rintro _ wz ⟨rfl, bz⟩
            have p1 := (HJ.out.below bz).ps.bk.cell 0
            simp only [List.getElem?_cons_zero] at p1
            have HJ := Lib.hid (HJ.out.below bz)
            clear HBL bz e1 e2 e3 e4 e5 e6 e7 e8 e9 HBD HRT n0 p0
            obtain ⟨e1, e2, e3, e4, e5, e6, e7, e8, e9⟩ := HJ.out.cells
            go_upto_if 75 with fail
            go_cut [] (fun wx => ∃ (st2 : PS) (vj2 : Value), Hid (st2.out = st.out ∧ rr = .ok { st2 with out := st2.out ++ [⟨o1, o2, o3, o4, o5, o6, o7, o8⟩] }) ∧ Hid (LJ w D P Wm M R N st2 (.slice Ao st.out.length co) vj2 ⟨o1, o2, o3, o4, o5, o6, o7, o8⟩ lb wx))
            case first =>
              by_cases hlb : lb = []
              · have HE1 := Lib.hid (HE.out.1 hlb)
                subst hlb
                clear HE
                go_wp2_with fail
                go_meet
                exact ⟨st, vj, Lib.hid ⟨rfl, HE1.out⟩, HJ⟩
              · have qlb : (lb == []) = false := by simpa using hlb
                have HE2 := Lib.hid (HE.out.2 hlb)
                have qle : List.isEmpty lb = false := by cases lb with | nil => exact absurd rfl hlb | cons a b => rfl
                clear HE e1 e2 e3 e4 e5 e6 e7 e8 e9 p1
                obtain ⟨i0, hi0, hz0, hz1, hz2⟩ := info_jmp
                go_wp2_with fail
                any_goals (exfalso; rename_i hx; rw [qle] at hx; cases hx; done)
                refine wp_region_held_drew (S := fun _ => True) (by kernel_rfl) trivial (fun hS => ?_)
                have HJ := Lib.hid HJ.out.drew
                generalize wz.drew = wz at *
                refine wpAnyH_norm 21 (Array.replicate 21 false) rfl rfl ?_
                refine wpAnyH_take (i := 0) (v := ?_) rfl (by kernel_rfl) (by kernel_rfl) (by kernel_rfl) (fun _ _ _ h => h) (Or.inl ⟨by rfl, ?_⟩) hS ?_
                rotate_left 1
                · intro w' hSw
                  go_simp <;> with_reducible rfl
                try simp only [List.getElem_toArray, List.getElem_cons_zero, List.getElem_cons_succ, Act.put, List.setIfInBounds_toArray, List.set_cons_zero, List.set_cons_succ]
                refine wpAnyH_take (i := 1) (v := ?_) rfl (by kernel_rfl) (by kernel_rfl) (by kernel_rfl) (fun _ _ _ h => h) (Or.inl ⟨by rfl, ?_⟩) hS ?_
                rotate_left 1
                · intro w' hSw
                  go_simp <;> with_reducible rfl
                try simp only [List.getElem_toArray, List.getElem_cons_zero, List.getElem_cons_succ, Act.put, List.setIfInBounds_toArray, List.set_cons_zero, List.set_cons_succ]
                refine wpAnyH_take (i := 2) (v := ?_) rfl (by kernel_rfl) (by kernel_rfl) (by kernel_rfl) (fun _ _ _ h => h) (Or.inl ⟨by rfl, ?_⟩) hS ?_
                rotate_left 1
                · intro w' hSw
                  go_simp <;> with_reducible rfl
                try simp only [List.getElem_toArray, List.getElem_cons_zero, List.getElem_cons_succ, Act.put, List.setIfInBounds_toArray, List.set_cons_zero, List.set_cons_succ]
                refine wpAnyH_take (i := 3) (v := ?_) rfl (by kernel_rfl) (by kernel_rfl) (by kernel_rfl) (fun _ _ _ h => h) (Or.inl ⟨by rfl, ?_⟩) hS ?_
                rotate_left 1
                · intro w' hSw
                  go_simp <;> with_reducible rfl
                try simp only [List.getElem_toArray, List.getElem_cons_zero, List.getElem_cons_succ, Act.put, List.setIfInBounds_toArray, List.set_cons_zero, List.set_cons_succ]
                refine wpAnyH_take (i := 5) (v := ?_) rfl (by kernel_rfl) (by kernel_rfl) (by kernel_rfl) (fun _ _ _ h => h) (Or.inl ⟨by rfl, ?_⟩) hS ?_
                rotate_left 1
                · intro w' hSw
                  go_simp <;> with_reducible rfl
                try simp only [List.getElem_toArray, List.getElem_cons_zero, List.getElem_cons_succ, Act.put, List.setIfInBounds_toArray, List.set_cons_zero, List.set_cons_succ]
                refine wpAnyH_take (i := 6) (v := ?_) rfl (by kernel_rfl) (by kernel_rfl) (by kernel_rfl) (fun _ _ _ h => h) (Or.inl ⟨by rfl, ?_⟩) hS ?_
                rotate_left 1
                · intro w' hSw
                  go_simp <;> with_reducible rfl
                try simp only [List.getElem_toArray, List.getElem_cons_zero, List.getElem_cons_succ, Act.put, List.setIfInBounds_toArray, List.set_cons_zero, List.set_cons_succ]
                refine wpAnyH_take (i := 7) (v := ?_) rfl (by kernel_rfl) (by kernel_rfl) (by kernel_rfl) (fun _ _ _ h => h) (Or.inl ⟨by rfl, ?_⟩) hS ?_
                rotate_left 1
                · intro w' hSw
                  go_simp <;> with_reducible rfl
                try simp only [List.getElem_toArray, List.getElem_cons_zero, List.getElem_cons_succ, Act.put, List.setIfInBounds_toArray, List.set_cons_zero, List.set_cons_succ]
                refine wpAnyH_take (i := 10) (v := ?_) rfl (by kernel_rfl) (by kernel_rfl) (by kernel_rfl) (fun _ _ _ h => h) (Or.inl ⟨by rfl, ?_⟩) hS ?_
                rotate_left 1
                · intro w' hSw
                  go_simp <;> with_reducible rfl
                try simp only [List.getElem_toArray, List.getElem_cons_zero, List.getElem_cons_succ, Act.put, List.setIfInBounds_toArray, List.set_cons_zero, List.set_cons_succ]
                refine wpAnyH_take (i := 11) (v := ?_) rfl (by kernel_rfl) (by kernel_rfl) (by kernel_rfl) (fun _ _ _ h => h) (Or.inl ⟨by rfl, ?_⟩) hS ?_
                rotate_left 1
                · intro w' hSw
                  go_simp <;> with_reducible rfl
                try simp only [List.getElem_toArray, List.getElem_cons_zero, List.getElem_cons_succ, Act.put, List.setIfInBounds_toArray, List.set_cons_zero, List.set_cons_succ]
                refine wpAnyH_take (i := 12) (v := ?_) rfl (by kernel_rfl) (by kernel_rfl) (by kernel_rfl) (fun _ _ _ h => h) (Or.inl ⟨by rfl, ?_⟩) hS ?_
                rotate_left 1
                · intro w' hSw
                  go_simp <;> with_reducible rfl
                try simp only [List.getElem_toArray, List.getElem_cons_zero, List.getElem_cons_succ, Act.put, List.setIfInBounds_toArray, List.set_cons_zero, List.set_cons_succ]
                refine wpAnyH_take (i := 13) (v := ?_) rfl (by kernel_rfl) (by kernel_rfl) (by kernel_rfl) (fun _ _ _ h => h) (Or.inl ⟨by rfl, ?_⟩) hS ?_
                rotate_left 1
                · intro w' hSw
                  go_simp <;> with_reducible rfl
                try simp only [List.getElem_toArray, List.getElem_cons_zero, List.getElem_cons_succ, Act.put, List.setIfInBounds_toArray, List.set_cons_zero, List.set_cons_succ]
                refine wpAnyH_norm 10 #[true, true, true, true, false, true, true, true, false, false, true, true, true, true, false, false, false, false, false, false, false] (by kernel_rfl) (by kernel_rfl) ?_
                refine wpAnyH_ready (rs := [4, 8, 14]) (by kernel_rfl) (by simp) (AllReadyH.cons rfl (fun K hK => ?_) (AllReadyH.cons rfl (fun K hK => ?_) (AllReadyH.cons rfl (fun K hK => ?_) AllReadyH.nil)))
                · have c3 := HJ.out.ps.bk.cell 3
                  simp only [List.getElem?_cons_zero, List.getElem?_cons_succ] at c3
                  go_simp
                  refine hK _ _ trivial (fun hS => ?_)
                  clear hK K c3
                  try simp only [List.getElem_toArray, List.getElem_cons_zero, List.getElem_cons_succ, Act.put, List.setIfInBounds_toArray, List.set_cons_zero, List.set_cons_succ]
                  refine wpAnyH_ready (rs := [8, 14]) (by kernel_rfl) (by simp) (AllReadyH.cons rfl (fun K hK => ?_) (AllReadyH.cons rfl (fun K hK => ?_) AllReadyH.nil))
                  · have c3 := HJ.out.ps.bk.cell 0
                    simp only [List.getElem?_cons_zero, List.getElem?_cons_succ] at c3
                    go_simp
                    refine hK _ _ trivial (fun hS => ?_)
                    clear hK K c3
                    try simp only [List.getElem_toArray, List.getElem_cons_zero, List.getElem_cons_succ, Act.put, List.setIfInBounds_toArray, List.set_cons_zero, List.set_cons_succ]
                    refine wpAnyH_take (i := 9) (v := ?_) rfl (by kernel_rfl) (by kernel_rfl) (by kernel_rfl) (fun _ _ _ h => h) (Or.inl ⟨by rfl, ?_⟩) hS ?_
                    rotate_left 1
                    · intro w' hSw
                      go_simp <;> with_reducible rfl
                    try simp only [List.getElem_toArray, List.getElem_cons_zero, List.getElem_cons_succ, Act.put, List.setIfInBounds_toArray, List.set_cons_zero, List.set_cons_succ]
                    refine wpAnyH_ready (rs := [14]) (by kernel_rfl) (by simp) (AllReadyH.cons rfl (fun K hK => ?_) AllReadyH.nil)
                    have c3 := HJ.out.cells.2.2.2.2.2.2.2.2
                    go_simp
                    refine hK _ _ trivial (fun hS => ?_)
                    clear hK K c3
                    try simp only [List.getElem_toArray, List.getElem_cons_zero, List.getElem_cons_succ, Act.put, List.setIfInBounds_toArray, List.set_cons_zero, List.set_cons_succ]
                    refine wpAnyH_ready (rs := [15]) (by kernel_rfl) (by simp) (AllReadyH.cons rfl (fun K hK => ?_) AllReadyH.nil)
                    go_simp
                    refine hK _ _ trivial (fun hS => ?_)
                    clear hK K
                    try simp only [List.getElem_toArray, List.getElem_cons_zero, List.getElem_cons_succ, Act.put, List.setIfInBounds_toArray, List.set_cons_zero, List.set_cons_succ]
                    refine wpAnyH_ready (rs := [16]) (by kernel_rfl) (by simp) (AllReadyH.cons rfl (fun K hK => ?_) AllReadyH.nil)
                    go_simp
                    have HJ := Lib.hid (HJ.out.alloc (.cells #[.int .i64 (st.out.length : Nat), .int .i64 n, .string ⟨lb.toArray⟩] 129))
                    have hny := Lib.hid (news_new wz [.int .i64 (st.out.length : Nat), .int .i64 n, .string ⟨lb.toArray⟩] 129)
                    refine hK _ _ trivial (fun hS => ?_)
                    clear hK K
                    generalize (wz.alloc (.cells #[.int .i64 (st.out.length : Nat), .int .i64 n, .string ⟨lb.toArray⟩] 129)) = wy at *
                    try simp only [List.getElem_toArray, List.getElem_cons_zero, List.getElem_cons_succ, Act.put, List.setIfInBounds_toArray, List.set_cons_zero, List.set_cons_succ]
                    refine wpAnyH_ready (rs := [17]) (by kernel_rfl) (by simp) (AllReadyH.cons rfl (fun K hK => ?_) AllReadyH.nil)
                    refine step_append_ownA (by rfl) (.tmp 80) (.tmp 92) 56 (by rfl) D 129 i0 _ 3 32 Tryz.underlying56 hi0 hz0 hz1 hz2 rfl (by decide) vj st.jumps.length (jmC st.jumps) (by rfl) HJ.out.ps.jumps (some ⟨wz.heap.size, 0, none⟩) 1 1 [.int .i64 (st.out.length : Nat), .int .i64 n, .string ⟨lb.toArray⟩] (by rfl) rfl (fun e => by cases e) (fun ad e => by injection e with e; subst e; exact hny.out) (by intro x hx; simp at hx; rcases hx with rfl | rfl | rfl <;> rfl) (by have := HSZ.out.2; unfold maxLen; omega) (by have := HSZ.out.2; omega) HJ.out.size ?_
                    intro v7 w7 hr7 hgr7
                    obtain ⟨A7, d7, rfl⟩ := own_slice hr7
                    have hbk7 := HJ.out.jbk hgr7
                    rw [HM.out] at hr7
                    have HJ7 := Lib.hid (HJ.out.jumped ⟨st.out.length, m, lb⟩ hr7 hgr7)
                    have f3 := hbk7.frozen 3
                    have c3 := hbk7.cell 3
                    simp only [List.getElem?_cons_zero, List.getElem?_cons_succ] at c3
                    refine hK _ _ trivial (fun hS => ?_)
                    clear hK K hr7 hgr7 hny hbk7
                    try simp only [List.getElem_toArray, List.getElem_cons_zero, List.getElem_cons_succ, Act.put, List.setIfInBounds_toArray, List.set_cons_zero, List.set_cons_succ]
                    refine wpAnyH_take (i := 18) (v := ?_) rfl (by kernel_rfl) (by kernel_rfl) (by kernel_rfl) (fun _ _ _ h => h) (Or.inl ⟨by rfl, ?_⟩) hS ?_
                    rotate_left 1
                    · intro w' hSw
                      go_simp <;> with_reducible rfl
                    try simp only [List.getElem_toArray, List.getElem_cons_zero, List.getElem_cons_succ, Act.put, List.setIfInBounds_toArray, List.set_cons_zero, List.set_cons_succ]
                    refine wpAnyH_take (i := 19) (v := ?_) rfl (by kernel_rfl) (by kernel_rfl) (by kernel_rfl) (fun _ _ _ h => h) (Or.inl ⟨by rfl, ?_⟩) hS ?_
                    rotate_left 1
                    · intro w' hSw
                      go_simp <;> with_reducible rfl
                    try simp only [List.getElem_toArray, List.getElem_cons_zero, List.getElem_cons_succ, Act.put, List.setIfInBounds_toArray, List.set_cons_zero, List.set_cons_succ]
                    refine wpAnyH_ready (rs := [20]) (by kernel_rfl) (by simp) (AllReadyH.cons rfl (fun K hK => ?_) AllReadyH.nil)
                    go_simp
                    refine hK _ _ trivial (fun hS => ?_)
                    clear hK K
                    try simp only [List.getElem_toArray, List.getElem_cons_zero, List.getElem_cons_succ, Act.put, List.setIfInBounds_toArray, List.set_cons_zero, List.set_cons_succ]
                    refine wpAnyH_done (by kernel_rfl) ?_ _
                    go_wp2_with fail
                    go_meet
                    exact ⟨{ st with jumps := st.jumps ++ [⟨st.out.length, m, lb⟩] }, .slice A7 (st.jumps.length + 1) d7, Lib.hid ⟨rfl, HE2.out⟩, HJ7⟩
                  · have c3 := HJ.out.cells.2.2.2.2.2.2.2.2
                    go_simp
                    refine hK _ _ trivial (fun hS => ?_)
                    clear hK K c3
                    try simp only [List.getElem_toArray, List.getElem_cons_zero, List.getElem_cons_succ, Act.put, List.setIfInBounds_toArray, List.set_cons_zero, List.set_cons_succ]
                    refine wpAnyH_ready (rs := [8]) (by kernel_rfl) (by simp) (AllReadyH.cons rfl (fun K hK => ?_) AllReadyH.nil)
                    have c3 := HJ.out.ps.bk.cell 0
                    simp only [List.getElem?_cons_zero, List.getElem?_cons_succ] at c3
                    go_simp
                    refine hK _ _ trivial (fun hS => ?_)
                    clear hK K c3
                    try simp only [List.getElem_toArray, List.getElem_cons_zero, List.getElem_cons_succ, Act.put, List.setIfInBounds_toArray, List.set_cons_zero, List.set_cons_succ]
                    refine wpAnyH_take (i := 9) (v := ?_) rfl (by kernel_rfl) (by kernel_rfl) (by kernel_rfl) (fun _ _ _ h => h) (Or.inl ⟨by rfl, ?_⟩) hS ?_
                    rotate_left 1
                    · intro w' hSw
                      go_simp <;> with_reducible rfl
                    try simp only [List.getElem_toArray, List.getElem_cons_zero, List.getElem_cons_succ, Act.put, List.setIfInBounds_toArray, List.set_cons_zero, List.set_cons_succ]
                    refine wpAnyH_ready (rs := [15]) (by kernel_rfl) (by simp) (AllReadyH.cons rfl (fun K hK => ?_) AllReadyH.nil)
                    go_simp
                    refine hK _ _ trivial (fun hS => ?_)
                    clear hK K
                    try simp only [List.getElem_toArray, List.getElem_cons_zero, List.getElem_cons_succ, Act.put, List.setIfInBounds_toArray, List.set_cons_zero, List.set_cons_succ]
                    refine wpAnyH_ready (rs := [16]) (by kernel_rfl) (by simp) (AllReadyH.cons rfl (fun K hK => ?_) AllReadyH.nil)
                    go_simp
                    have HJ := Lib.hid (HJ.out.alloc (.cells #[.int .i64 (st.out.length : Nat), .int .i64 n, .string ⟨lb.toArray⟩] 129))
                    have hny := Lib.hid (news_new wz [.int .i64 (st.out.length : Nat), .int .i64 n, .string ⟨lb.toArray⟩] 129)
                    refine hK _ _ trivial (fun hS => ?_)
                    clear hK K
                    generalize (wz.alloc (.cells #[.int .i64 (st.out.length : Nat), .int .i64 n, .string ⟨lb.toArray⟩] 129)) = wy at *
                    try simp only [List.getElem_toArray, List.getElem_cons_zero, List.getElem_cons_succ, Act.put, List.setIfInBounds_toArray, List.set_cons_zero, List.set_cons_succ]
                    refine wpAnyH_ready (rs := [17]) (by kernel_rfl) (by simp) (AllReadyH.cons rfl (fun K hK => ?_) AllReadyH.nil)
                    refine step_append_ownA (by rfl) (.tmp 80) (.tmp 92) 56 (by rfl) D 129 i0 _ 3 32 Tryz.underlying56 hi0 hz0 hz1 hz2 rfl (by decide) vj st.jumps.length (jmC st.jumps) (by rfl) HJ.out.ps.jumps (some ⟨wz.heap.size, 0, none⟩) 1 1 [.int .i64 (st.out.length : Nat), .int .i64 n, .string ⟨lb.toArray⟩] (by rfl) rfl (fun e => by cases e) (fun ad e => by injection e with e; subst e; exact hny.out) (by intro x hx; simp at hx; rcases hx with rfl | rfl | rfl <;> rfl) (by have := HSZ.out.2; unfold maxLen; omega) (by have := HSZ.out.2; omega) HJ.out.size ?_
                    intro v7 w7 hr7 hgr7
                    obtain ⟨A7, d7, rfl⟩ := own_slice hr7
                    have hbk7 := HJ.out.jbk hgr7
                    rw [HM.out] at hr7
                    have HJ7 := Lib.hid (HJ.out.jumped ⟨st.out.length, m, lb⟩ hr7 hgr7)
                    have f3 := hbk7.frozen 3
                    have c3 := hbk7.cell 3
                    simp only [List.getElem?_cons_zero, List.getElem?_cons_succ] at c3
                    refine hK _ _ trivial (fun hS => ?_)
                    clear hK K hr7 hgr7 hny hbk7
                    try simp only [List.getElem_toArray, List.getElem_cons_zero, List.getElem_cons_succ, Act.put, List.setIfInBounds_toArray, List.set_cons_zero, List.set_cons_succ]
                    refine wpAnyH_take (i := 18) (v := ?_) rfl (by kernel_rfl) (by kernel_rfl) (by kernel_rfl) (fun _ _ _ h => h) (Or.inl ⟨by rfl, ?_⟩) hS ?_
                    rotate_left 1
                    · intro w' hSw
                      go_simp <;> with_reducible rfl
                    try simp only [List.getElem_toArray, List.getElem_cons_zero, List.getElem_cons_succ, Act.put, List.setIfInBounds_toArray, List.set_cons_zero, List.set_cons_succ]
                    refine wpAnyH_take (i := 19) (v := ?_) rfl (by kernel_rfl) (by kernel_rfl) (by kernel_rfl) (fun _ _ _ h => h) (Or.inl ⟨by rfl, ?_⟩) hS ?_
                    rotate_left 1
                    · intro w' hSw
                      go_simp <;> with_reducible rfl
                    try simp only [List.getElem_toArray, List.getElem_cons_zero, List.getElem_cons_succ, Act.put, List.setIfInBounds_toArray, List.set_cons_zero, List.set_cons_succ]
                    refine wpAnyH_ready (rs := [20]) (by kernel_rfl) (by simp) (AllReadyH.cons rfl (fun K hK => ?_) AllReadyH.nil)
                    go_simp
                    refine hK _ _ trivial (fun hS => ?_)
                    clear hK K
                    try simp only [List.getElem_toArray, List.getElem_cons_zero, List.getElem_cons_succ, Act.put, List.setIfInBounds_toArray, List.set_cons_zero, List.set_cons_succ]
                    refine wpAnyH_done (by kernel_rfl) ?_ _
                    go_wp2_with fail
                    go_meet
                    exact ⟨{ st with jumps := st.jumps ++ [⟨st.out.length, m, lb⟩] }, .slice A7 (st.jumps.length + 1) d7, Lib.hid ⟨rfl, HE2.out⟩, HJ7⟩
                · have c3 := HJ.out.ps.bk.cell 0
                  simp only [List.getElem?_cons_zero, List.getElem?_cons_succ] at c3
                  go_simp
                  refine hK _ _ trivial (fun hS => ?_)
                  clear hK K c3
                  try simp only [List.getElem_toArray, List.getElem_cons_zero, List.getElem_cons_succ, Act.put, List.setIfInBounds_toArray, List.set_cons_zero, List.set_cons_succ]
                  refine wpAnyH_take (i := 9) (v := ?_) rfl (by kernel_rfl) (by kernel_rfl) (by kernel_rfl) (fun _ _ _ h => h) (Or.inl ⟨by rfl, ?_⟩) hS ?_
                  rotate_left 1
                  · intro w' hSw
                    go_simp <;> with_reducible rfl
                  try simp only [List.getElem_toArray, List.getElem_cons_zero, List.getElem_cons_succ, Act.put, List.setIfInBounds_toArray, List.set_cons_zero, List.set_cons_succ]
                  refine wpAnyH_ready (rs := [4, 14]) (by kernel_rfl) (by simp) (AllReadyH.cons rfl (fun K hK => ?_) (AllReadyH.cons rfl (fun K hK => ?_) AllReadyH.nil))
                  · have c3 := HJ.out.ps.bk.cell 3
                    simp only [List.getElem?_cons_zero, List.getElem?_cons_succ] at c3
                    go_simp
                    refine hK _ _ trivial (fun hS => ?_)
                    clear hK K c3
                    try simp only [List.getElem_toArray, List.getElem_cons_zero, List.getElem_cons_succ, Act.put, List.setIfInBounds_toArray, List.set_cons_zero, List.set_cons_succ]
                    refine wpAnyH_ready (rs := [14]) (by kernel_rfl) (by simp) (AllReadyH.cons rfl (fun K hK => ?_) AllReadyH.nil)
                    have c3 := HJ.out.cells.2.2.2.2.2.2.2.2
                    go_simp
                    refine hK _ _ trivial (fun hS => ?_)
                    clear hK K c3
                    try simp only [List.getElem_toArray, List.getElem_cons_zero, List.getElem_cons_succ, Act.put, List.setIfInBounds_toArray, List.set_cons_zero, List.set_cons_succ]
                    refine wpAnyH_ready (rs := [15]) (by kernel_rfl) (by simp) (AllReadyH.cons rfl (fun K hK => ?_) AllReadyH.nil)
                    go_simp
                    refine hK _ _ trivial (fun hS => ?_)
                    clear hK K
                    try simp only [List.getElem_toArray, List.getElem_cons_zero, List.getElem_cons_succ, Act.put, List.setIfInBounds_toArray, List.set_cons_zero, List.set_cons_succ]
                    refine wpAnyH_ready (rs := [16]) (by kernel_rfl) (by simp) (AllReadyH.cons rfl (fun K hK => ?_) AllReadyH.nil)
                    go_simp
                    have HJ := Lib.hid (HJ.out.alloc (.cells #[.int .i64 (st.out.length : Nat), .int .i64 n, .string ⟨lb.toArray⟩] 129))
                    have hny := Lib.hid (news_new wz [.int .i64 (st.out.length : Nat), .int .i64 n, .string ⟨lb.toArray⟩] 129)
                    refine hK _ _ trivial (fun hS => ?_)
                    clear hK K
                    generalize (wz.alloc (.cells #[.int .i64 (st.out.length : Nat), .int .i64 n, .string ⟨lb.toArray⟩] 129)) = wy at *
                    try simp only [List.getElem_toArray, List.getElem_cons_zero, List.getElem_cons_succ, Act.put, List.setIfInBounds_toArray, List.set_cons_zero, List.set_cons_succ]
                    refine wpAnyH_ready (rs := [17]) (by kernel_rfl) (by simp) (AllReadyH.cons rfl (fun K hK => ?_) AllReadyH.nil)
                    refine step_append_ownA (by rfl) (.tmp 80) (.tmp 92) 56 (by rfl) D 129 i0 _ 3 32 Tryz.underlying56 hi0 hz0 hz1 hz2 rfl (by decide) vj st.jumps.length (jmC st.jumps) (by rfl) HJ.out.ps.jumps (some ⟨wz.heap.size, 0, none⟩) 1 1 [.int .i64 (st.out.length : Nat), .int .i64 n, .string ⟨lb.toArray⟩] (by rfl) rfl (fun e => by cases e) (fun ad e => by injection e with e; subst e; exact hny.out) (by intro x hx; simp at hx; rcases hx with rfl | rfl | rfl <;> rfl) (by have := HSZ.out.2; unfold maxLen; omega) (by have := HSZ.out.2; omega) HJ.out.size ?_
                    intro v7 w7 hr7 hgr7
                    obtain ⟨A7, d7, rfl⟩ := own_slice hr7
                    have hbk7 := HJ.out.jbk hgr7
                    rw [HM.out] at hr7
                    have HJ7 := Lib.hid (HJ.out.jumped ⟨st.out.length, m, lb⟩ hr7 hgr7)
                    have f3 := hbk7.frozen 3
                    have c3 := hbk7.cell 3
                    simp only [List.getElem?_cons_zero, List.getElem?_cons_succ] at c3
                    refine hK _ _ trivial (fun hS => ?_)
                    clear hK K hr7 hgr7 hny hbk7
                    try simp only [List.getElem_toArray, List.getElem_cons_zero, List.getElem_cons_succ, Act.put, List.setIfInBounds_toArray, List.set_cons_zero, List.set_cons_succ]
                    refine wpAnyH_take (i := 18) (v := ?_) rfl (by kernel_rfl) (by kernel_rfl) (by kernel_rfl) (fun _ _ _ h => h) (Or.inl ⟨by rfl, ?_⟩) hS ?_
                    rotate_left 1
                    · intro w' hSw
                      go_simp <;> with_reducible rfl
                    try simp only [List.getElem_toArray, List.getElem_cons_zero, List.getElem_cons_succ, Act.put, List.setIfInBounds_toArray, List.set_cons_zero, List.set_cons_succ]
                    refine wpAnyH_take (i := 19) (v := ?_) rfl (by kernel_rfl) (by kernel_rfl) (by kernel_rfl) (fun _ _ _ h => h) (Or.inl ⟨by rfl, ?_⟩) hS ?_
                    rotate_left 1
                    · intro w' hSw
                      go_simp <;> with_reducible rfl
                    try simp only [List.getElem_toArray, List.getElem_cons_zero, List.getElem_cons_succ, Act.put, List.setIfInBounds_toArray, List.set_cons_zero, List.set_cons_succ]
                    refine wpAnyH_ready (rs := [20]) (by kernel_rfl) (by simp) (AllReadyH.cons rfl (fun K hK => ?_) AllReadyH.nil)
                    go_simp
                    refine hK _ _ trivial (fun hS => ?_)
                    clear hK K
                    try simp only [List.getElem_toArray, List.getElem_cons_zero, List.getElem_cons_succ, Act.put, List.setIfInBounds_toArray, List.set_cons_zero, List.set_cons_succ]
                    refine wpAnyH_done (by kernel_rfl) ?_ _
                    go_wp2_with fail
                    go_meet
                    exact ⟨{ st with jumps := st.jumps ++ [⟨st.out.length, m, lb⟩] }, .slice A7 (st.jumps.length + 1) d7, Lib.hid ⟨rfl, HE2.out⟩, HJ7⟩
                  · have c3 := HJ.out.cells.2.2.2.2.2.2.2.2
                    go_simp
                    refine hK _ _ trivial (fun hS => ?_)
                    clear hK K c3
                    try simp only [List.getElem_toArray, List.getElem_cons_zero, List.getElem_cons_succ, Act.put, List.setIfInBounds_toArray, List.set_cons_zero, List.set_cons_succ]
                    refine wpAnyH_ready (rs := [4, 15]) (by kernel_rfl) (by simp) (AllReadyH.cons rfl (fun K hK => ?_) (AllReadyH.cons rfl (fun K hK => ?_) AllReadyH.nil))
                    · have c3 := HJ.out.ps.bk.cell 3
                      simp only [List.getElem?_cons_zero, List.getElem?_cons_succ] at c3
                      go_simp
                      refine hK _ _ trivial (fun hS => ?_)
                      clear hK K c3
                      try simp only [List.getElem_toArray, List.getElem_cons_zero, List.getElem_cons_succ, Act.put, List.setIfInBounds_toArray, List.set_cons_zero, List.set_cons_succ]
                      refine wpAnyH_ready (rs := [15]) (by kernel_rfl) (by simp) (AllReadyH.cons rfl (fun K hK => ?_) AllReadyH.nil)
                      go_simp
                      refine hK _ _ trivial (fun hS => ?_)
                      clear hK K
                      try simp only [List.getElem_toArray, List.getElem_cons_zero, List.getElem_cons_succ, Act.put, List.setIfInBounds_toArray, List.set_cons_zero, List.set_cons_succ]
                      refine wpAnyH_ready (rs := [16]) (by kernel_rfl) (by simp) (AllReadyH.cons rfl (fun K hK => ?_) AllReadyH.nil)
                      go_simp
                      have HJ := Lib.hid (HJ.out.alloc (.cells #[.int .i64 (st.out.length : Nat), .int .i64 n, .string ⟨lb.toArray⟩] 129))
                      have hny := Lib.hid (news_new wz [.int .i64 (st.out.length : Nat), .int .i64 n, .string ⟨lb.toArray⟩] 129)
                      refine hK _ _ trivial (fun hS => ?_)
                      clear hK K
                      generalize (wz.alloc (.cells #[.int .i64 (st.out.length : Nat), .int .i64 n, .string ⟨lb.toArray⟩] 129)) = wy at *
                      try simp only [List.getElem_toArray, List.getElem_cons_zero, List.getElem_cons_succ, Act.put, List.setIfInBounds_toArray, List.set_cons_zero, List.set_cons_succ]
                      refine wpAnyH_ready (rs := [17]) (by kernel_rfl) (by simp) (AllReadyH.cons rfl (fun K hK => ?_) AllReadyH.nil)
                      refine step_append_ownA (by rfl) (.tmp 80) (.tmp 92) 56 (by rfl) D 129 i0 _ 3 32 Tryz.underlying56 hi0 hz0 hz1 hz2 rfl (by decide) vj st.jumps.length (jmC st.jumps) (by rfl) HJ.out.ps.jumps (some ⟨wz.heap.size, 0, none⟩) 1 1 [.int .i64 (st.out.length : Nat), .int .i64 n, .string ⟨lb.toArray⟩] (by rfl) rfl (fun e => by cases e) (fun ad e => by injection e with e; subst e; exact hny.out) (by intro x hx; simp at hx; rcases hx with rfl | rfl | rfl <;> rfl) (by have := HSZ.out.2; unfold maxLen; omega) (by have := HSZ.out.2; omega) HJ.out.size ?_
                      intro v7 w7 hr7 hgr7
                      obtain ⟨A7, d7, rfl⟩ := own_slice hr7
                      have hbk7 := HJ.out.jbk hgr7
                      rw [HM.out] at hr7
                      have HJ7 := Lib.hid (HJ.out.jumped ⟨st.out.length, m, lb⟩ hr7 hgr7)
                      have f3 := hbk7.frozen 3
                      have c3 := hbk7.cell 3
                      simp only [List.getElem?_cons_zero, List.getElem?_cons_succ] at c3
                      refine hK _ _ trivial (fun hS => ?_)
                      clear hK K hr7 hgr7 hny hbk7
                      try simp only [List.getElem_toArray, List.getElem_cons_zero, List.getElem_cons_succ, Act.put, List.setIfInBounds_toArray, List.set_cons_zero, List.set_cons_succ]
                      refine wpAnyH_take (i := 18) (v := ?_) rfl (by kernel_rfl) (by kernel_rfl) (by kernel_rfl) (fun _ _ _ h => h) (Or.inl ⟨by rfl, ?_⟩) hS ?_
                      rotate_left 1
                      · intro w' hSw
                        go_simp <;> with_reducible rfl
                      try simp only [List.getElem_toArray, List.getElem_cons_zero, List.getElem_cons_succ, Act.put, List.setIfInBounds_toArray, List.set_cons_zero, List.set_cons_succ]
                      refine wpAnyH_take (i := 19) (v := ?_) rfl (by kernel_rfl) (by kernel_rfl) (by kernel_rfl) (fun _ _ _ h => h) (Or.inl ⟨by rfl, ?_⟩) hS ?_
                      rotate_left 1
                      · intro w' hSw
                        go_simp <;> with_reducible rfl
                      try simp only [List.getElem_toArray, List.getElem_cons_zero, List.getElem_cons_succ, Act.put, List.setIfInBounds_toArray, List.set_cons_zero, List.set_cons_succ]
                      refine wpAnyH_ready (rs := [20]) (by kernel_rfl) (by simp) (AllReadyH.cons rfl (fun K hK => ?_) AllReadyH.nil)
                      go_simp
                      refine hK _ _ trivial (fun hS => ?_)
                      clear hK K
                      try simp only [List.getElem_toArray, List.getElem_cons_zero, List.getElem_cons_succ, Act.put, List.setIfInBounds_toArray, List.set_cons_zero, List.set_cons_succ]
                      refine wpAnyH_done (by kernel_rfl) ?_ _
                      go_wp2_with fail
                      go_meet
                      exact ⟨{ st with jumps := st.jumps ++ [⟨st.out.length, m, lb⟩] }, .slice A7 (st.jumps.length + 1) d7, Lib.hid ⟨rfl, HE2.out⟩, HJ7⟩
                    · go_simp
                      refine hK _ _ trivial (fun hS => ?_)
                      clear hK K
                      try simp only [List.getElem_toArray, List.getElem_cons_zero, List.getElem_cons_succ, Act.put, List.setIfInBounds_toArray, List.set_cons_zero, List.set_cons_succ]
                      refine wpAnyH_ready (rs := [4, 16]) (by kernel_rfl) (by simp) (AllReadyH.cons rfl (fun K hK => ?_) (AllReadyH.cons rfl (fun K hK => ?_) AllReadyH.nil))
                      · have c3 := HJ.out.ps.bk.cell 3
                        simp only [List.getElem?_cons_zero, List.getElem?_cons_succ] at c3
                        go_simp
                        refine hK _ _ trivial (fun hS => ?_)
                        clear hK K c3
                        try simp only [List.getElem_toArray, List.getElem_cons_zero, List.getElem_cons_succ, Act.put, List.setIfInBounds_toArray, List.set_cons_zero, List.set_cons_succ]
                        refine wpAnyH_ready (rs := [16]) (by kernel_rfl) (by simp) (AllReadyH.cons rfl (fun K hK => ?_) AllReadyH.nil)
                        go_simp
                        have HJ := Lib.hid (HJ.out.alloc (.cells #[.int .i64 (st.out.length : Nat), .int .i64 n, .string ⟨lb.toArray⟩] 129))
                        have hny := Lib.hid (news_new wz [.int .i64 (st.out.length : Nat), .int .i64 n, .string ⟨lb.toArray⟩] 129)
                        refine hK _ _ trivial (fun hS => ?_)
                        clear hK K
                        generalize (wz.alloc (.cells #[.int .i64 (st.out.length : Nat), .int .i64 n, .string ⟨lb.toArray⟩] 129)) = wy at *
                        try simp only [List.getElem_toArray, List.getElem_cons_zero, List.getElem_cons_succ, Act.put, List.setIfInBounds_toArray, List.set_cons_zero, List.set_cons_succ]
                        refine wpAnyH_ready (rs := [17]) (by kernel_rfl) (by simp) (AllReadyH.cons rfl (fun K hK => ?_) AllReadyH.nil)
                        refine step_append_ownA (by rfl) (.tmp 80) (.tmp 92) 56 (by rfl) D 129 i0 _ 3 32 Tryz.underlying56 hi0 hz0 hz1 hz2 rfl (by decide) vj st.jumps.length (jmC st.jumps) (by rfl) HJ.out.ps.jumps (some ⟨wz.heap.size, 0, none⟩) 1 1 [.int .i64 (st.out.length : Nat), .int .i64 n, .string ⟨lb.toArray⟩] (by rfl) rfl (fun e => by cases e) (fun ad e => by injection e with e; subst e; exact hny.out) (by intro x hx; simp at hx; rcases hx with rfl | rfl | rfl <;> rfl) (by have := HSZ.out.2; unfold maxLen; omega) (by have := HSZ.out.2; omega) HJ.out.size ?_
                        intro v7 w7 hr7 hgr7
                        obtain ⟨A7, d7, rfl⟩ := own_slice hr7
                        have hbk7 := HJ.out.jbk hgr7
                        rw [HM.out] at hr7
                        have HJ7 := Lib.hid (HJ.out.jumped ⟨st.out.length, m, lb⟩ hr7 hgr7)
                        have f3 := hbk7.frozen 3
                        have c3 := hbk7.cell 3
                        simp only [List.getElem?_cons_zero, List.getElem?_cons_succ] at c3
                        refine hK _ _ trivial (fun hS => ?_)
                        clear hK K hr7 hgr7 hny hbk7
                        try simp only [List.getElem_toArray, List.getElem_cons_zero, List.getElem_cons_succ, Act.put, List.setIfInBounds_toArray, List.set_cons_zero, List.set_cons_succ]
                        refine wpAnyH_take (i := 18) (v := ?_) rfl (by kernel_rfl) (by kernel_rfl) (by kernel_rfl) (fun _ _ _ h => h) (Or.inl ⟨by rfl, ?_⟩) hS ?_
                        rotate_left 1
                        · intro w' hSw
                          go_simp <;> with_reducible rfl
                        try simp only [List.getElem_toArray, List.getElem_cons_zero, List.getElem_cons_succ, Act.put, List.setIfInBounds_toArray, List.set_cons_zero, List.set_cons_succ]
                        refine wpAnyH_take (i := 19) (v := ?_) rfl (by kernel_rfl) (by kernel_rfl) (by kernel_rfl) (fun _ _ _ h => h) (Or.inl ⟨by rfl, ?_⟩) hS ?_
                        rotate_left 1
                        · intro w' hSw
                          go_simp <;> with_reducible rfl
                        try simp only [List.getElem_toArray, List.getElem_cons_zero, List.getElem_cons_succ, Act.put, List.setIfInBounds_toArray, List.set_cons_zero, List.set_cons_succ]
                        refine wpAnyH_ready (rs := [20]) (by kernel_rfl) (by simp) (AllReadyH.cons rfl (fun K hK => ?_) AllReadyH.nil)
                        go_simp
                        refine hK _ _ trivial (fun hS => ?_)
                        clear hK K
                        try simp only [List.getElem_toArray, List.getElem_cons_zero, List.getElem_cons_succ, Act.put, List.setIfInBounds_toArray, List.set_cons_zero, List.set_cons_succ]
                        refine wpAnyH_done (by kernel_rfl) ?_ _
                        go_wp2_with fail
                        go_meet
                        exact ⟨{ st with jumps := st.jumps ++ [⟨st.out.length, m, lb⟩] }, .slice A7 (st.jumps.length + 1) d7, Lib.hid ⟨rfl, HE2.out⟩, HJ7⟩
                      · go_simp
                        have HJ := Lib.hid (HJ.out.alloc (.cells #[.int .i64 (st.out.length : Nat), .int .i64 n, .string ⟨lb.toArray⟩] 129))
                        have hny := Lib.hid (news_new wz [.int .i64 (st.out.length : Nat), .int .i64 n, .string ⟨lb.toArray⟩] 129)
                        refine hK _ _ trivial (fun hS => ?_)
                        clear hK K
                        generalize (wz.alloc (.cells #[.int .i64 (st.out.length : Nat), .int .i64 n, .string ⟨lb.toArray⟩] 129)) = wy at *
                        try simp only [List.getElem_toArray, List.getElem_cons_zero, List.getElem_cons_succ, Act.put, List.setIfInBounds_toArray, List.set_cons_zero, List.set_cons_succ]
                        refine wpAnyH_ready (rs := [4]) (by kernel_rfl) (by simp) (AllReadyH.cons rfl (fun K hK => ?_) AllReadyH.nil)
                        have c3 := HJ.out.ps.bk.cell 3
                        simp only [List.getElem?_cons_zero, List.getElem?_cons_succ] at c3
                        go_simp
                        refine hK _ _ trivial (fun hS => ?_)
                        clear hK K c3
                        try simp only [List.getElem_toArray, List.getElem_cons_zero, List.getElem_cons_succ, Act.put, List.setIfInBounds_toArray, List.set_cons_zero, List.set_cons_succ]
                        refine wpAnyH_ready (rs := [17]) (by kernel_rfl) (by simp) (AllReadyH.cons rfl (fun K hK => ?_) AllReadyH.nil)
                        refine step_append_ownA (by rfl) (.tmp 80) (.tmp 92) 56 (by rfl) D 129 i0 _ 3 32 Tryz.underlying56 hi0 hz0 hz1 hz2 rfl (by decide) vj st.jumps.length (jmC st.jumps) (by rfl) HJ.out.ps.jumps (some ⟨wz.heap.size, 0, none⟩) 1 1 [.int .i64 (st.out.length : Nat), .int .i64 n, .string ⟨lb.toArray⟩] (by rfl) rfl (fun e => by cases e) (fun ad e => by injection e with e; subst e; exact hny.out) (by intro x hx; simp at hx; rcases hx with rfl | rfl | rfl <;> rfl) (by have := HSZ.out.2; unfold maxLen; omega) (by have := HSZ.out.2; omega) HJ.out.size ?_
                        intro v7 w7 hr7 hgr7
                        obtain ⟨A7, d7, rfl⟩ := own_slice hr7
                        have hbk7 := HJ.out.jbk hgr7
                        rw [HM.out] at hr7
                        have HJ7 := Lib.hid (HJ.out.jumped ⟨st.out.length, m, lb⟩ hr7 hgr7)
                        have f3 := hbk7.frozen 3
                        have c3 := hbk7.cell 3
                        simp only [List.getElem?_cons_zero, List.getElem?_cons_succ] at c3
                        refine hK _ _ trivial (fun hS => ?_)
                        clear hK K hr7 hgr7 hny hbk7
                        try simp only [List.getElem_toArray, List.getElem_cons_zero, List.getElem_cons_succ, Act.put, List.setIfInBounds_toArray, List.set_cons_zero, List.set_cons_succ]
                        refine wpAnyH_take (i := 18) (v := ?_) rfl (by kernel_rfl) (by kernel_rfl) (by kernel_rfl) (fun _ _ _ h => h) (Or.inl ⟨by rfl, ?_⟩) hS ?_
                        rotate_left 1
                        · intro w' hSw
                          go_simp <;> with_reducible rfl
                        try simp only [List.getElem_toArray, List.getElem_cons_zero, List.getElem_cons_succ, Act.put, List.setIfInBounds_toArray, List.set_cons_zero, List.set_cons_succ]
                        refine wpAnyH_take (i := 19) (v := ?_) rfl (by kernel_rfl) (by kernel_rfl) (by kernel_rfl) (fun _ _ _ h => h) (Or.inl ⟨by rfl, ?_⟩) hS ?_
                        rotate_left 1
                        · intro w' hSw
                          go_simp <;> with_reducible rfl
                        try simp only [List.getElem_toArray, List.getElem_cons_zero, List.getElem_cons_succ, Act.put, List.setIfInBounds_toArray, List.set_cons_zero, List.set_cons_succ]
                        refine wpAnyH_ready (rs := [20]) (by kernel_rfl) (by simp) (AllReadyH.cons rfl (fun K hK => ?_) AllReadyH.nil)
                        go_simp
                        refine hK _ _ trivial (fun hS => ?_)
                        clear hK K
                        try simp only [List.getElem_toArray, List.getElem_cons_zero, List.getElem_cons_succ, Act.put, List.setIfInBounds_toArray, List.set_cons_zero, List.set_cons_succ]
                        refine wpAnyH_done (by kernel_rfl) ?_ _
                        go_wp2_with fail
                        go_meet
                        exact ⟨{ st with jumps := st.jumps ++ [⟨st.out.length, m, lb⟩] }, .slice A7 (st.jumps.length + 1) d7, Lib.hid ⟨rfl, HE2.out⟩, HJ7⟩
                · have c3 := HJ.out.cells.2.2.2.2.2.2.2.2
                  go_simp
                  refine hK _ _ trivial (fun hS => ?_)
                  clear hK K c3
                  try simp only [List.getElem_toArray, List.getElem_cons_zero, List.getElem_cons_succ, Act.put, List.setIfInBounds_toArray, List.set_cons_zero, List.set_cons_succ]
                  refine wpAnyH_ready (rs := [4, 8]) (by kernel_rfl) (by simp) (AllReadyH.cons rfl (fun K hK => ?_) (AllReadyH.cons rfl (fun K hK => ?_) AllReadyH.nil))
                  · have c3 := HJ.out.ps.bk.cell 3
                    simp only [List.getElem?_cons_zero, List.getElem?_cons_succ] at c3
                    go_simp
                    refine hK _ _ trivial (fun hS => ?_)
                    clear hK K c3
                    try simp only [List.getElem_toArray, List.getElem_cons_zero, List.getElem_cons_succ, Act.put, List.setIfInBounds_toArray, List.set_cons_zero, List.set_cons_succ]
                    refine wpAnyH_ready (rs := [8]) (by kernel_rfl) (by simp) (AllReadyH.cons rfl (fun K hK => ?_) AllReadyH.nil)
                    have c3 := HJ.out.ps.bk.cell 0
                    simp only [List.getElem?_cons_zero, List.getElem?_cons_succ] at c3
                    go_simp
                    refine hK _ _ trivial (fun hS => ?_)
                    clear hK K c3
                    try simp only [List.getElem_toArray, List.getElem_cons_zero, List.getElem_cons_succ, Act.put, List.setIfInBounds_toArray, List.set_cons_zero, List.set_cons_succ]
                    refine wpAnyH_take (i := 9) (v := ?_) rfl (by kernel_rfl) (by kernel_rfl) (by kernel_rfl) (fun _ _ _ h => h) (Or.inl ⟨by rfl, ?_⟩) hS ?_
                    rotate_left 1
                    · intro w' hSw
                      go_simp <;> with_reducible rfl
                    try simp only [List.getElem_toArray, List.getElem_cons_zero, List.getElem_cons_succ, Act.put, List.setIfInBounds_toArray, List.set_cons_zero, List.set_cons_succ]
                    refine wpAnyH_ready (rs := [15]) (by kernel_rfl) (by simp) (AllReadyH.cons rfl (fun K hK => ?_) AllReadyH.nil)
                    go_simp
                    refine hK _ _ trivial (fun hS => ?_)
                    clear hK K
                    try simp only [List.getElem_toArray, List.getElem_cons_zero, List.getElem_cons_succ, Act.put, List.setIfInBounds_toArray, List.set_cons_zero, List.set_cons_succ]
                    refine wpAnyH_ready (rs := [16]) (by kernel_rfl) (by simp) (AllReadyH.cons rfl (fun K hK => ?_) AllReadyH.nil)
                    go_simp
                    have HJ := Lib.hid (HJ.out.alloc (.cells #[.int .i64 (st.out.length : Nat), .int .i64 n, .string ⟨lb.toArray⟩] 129))
                    have hny := Lib.hid (news_new wz [.int .i64 (st.out.length : Nat), .int .i64 n, .string ⟨lb.toArray⟩] 129)
                    refine hK _ _ trivial (fun hS => ?_)
                    clear hK K
                    generalize (wz.alloc (.cells #[.int .i64 (st.out.length : Nat), .int .i64 n, .string ⟨lb.toArray⟩] 129)) = wy at *
                    try simp only [List.getElem_toArray, List.getElem_cons_zero, List.getElem_cons_succ, Act.put, List.setIfInBounds_toArray, List.set_cons_zero, List.set_cons_succ]
                    refine wpAnyH_ready (rs := [17]) (by kernel_rfl) (by simp) (AllReadyH.cons rfl (fun K hK => ?_) AllReadyH.nil)
                    refine step_append_ownA (by rfl) (.tmp 80) (.tmp 92) 56 (by rfl) D 129 i0 _ 3 32 Tryz.underlying56 hi0 hz0 hz1 hz2 rfl (by decide) vj st.jumps.length (jmC st.jumps) (by rfl) HJ.out.ps.jumps (some ⟨wz.heap.size, 0, none⟩) 1 1 [.int .i64 (st.out.length : Nat), .int .i64 n, .string ⟨lb.toArray⟩] (by rfl) rfl (fun e => by cases e) (fun ad e => by injection e with e; subst e; exact hny.out) (by intro x hx; simp at hx; rcases hx with rfl | rfl | rfl <;> rfl) (by have := HSZ.out.2; unfold maxLen; omega) (by have := HSZ.out.2; omega) HJ.out.size ?_
                    intro v7 w7 hr7 hgr7
                    obtain ⟨A7, d7, rfl⟩ := own_slice hr7
                    have hbk7 := HJ.out.jbk hgr7
                    rw [HM.out] at hr7
                    have HJ7 := Lib.hid (HJ.out.jumped ⟨st.out.length, m, lb⟩ hr7 hgr7)
                    have f3 := hbk7.frozen 3
                    have c3 := hbk7.cell 3
                    simp only [List.getElem?_cons_zero, List.getElem?_cons_succ] at c3
                    refine hK _ _ trivial (fun hS => ?_)
                    clear hK K hr7 hgr7 hny hbk7
                    try simp only [List.getElem_toArray, List.getElem_cons_zero, List.getElem_cons_succ, Act.put, List.setIfInBounds_toArray, List.set_cons_zero, List.set_cons_succ]
                    refine wpAnyH_take (i := 18) (v := ?_) rfl (by kernel_rfl) (by kernel_rfl) (by kernel_rfl) (fun _ _ _ h => h) (Or.inl ⟨by rfl, ?_⟩) hS ?_
                    rotate_left 1
                    · intro w' hSw
                      go_simp <;> with_reducible rfl
                    try simp only [List.getElem_toArray, List.getElem_cons_zero, List.getElem_cons_succ, Act.put, List.setIfInBounds_toArray, List.set_cons_zero, List.set_cons_succ]
                    refine wpAnyH_take (i := 19) (v := ?_) rfl (by kernel_rfl) (by kernel_rfl) (by kernel_rfl) (fun _ _ _ h => h) (Or.inl ⟨by rfl, ?_⟩) hS ?_
                    rotate_left 1
                    · intro w' hSw
                      go_simp <;> with_reducible rfl
                    try simp only [List.getElem_toArray, List.getElem_cons_zero, List.getElem_cons_succ, Act.put, List.setIfInBounds_toArray, List.set_cons_zero, List.set_cons_succ]
                    refine wpAnyH_ready (rs := [20]) (by kernel_rfl) (by simp) (AllReadyH.cons rfl (fun K hK => ?_) AllReadyH.nil)
                    go_simp
                    refine hK _ _ trivial (fun hS => ?_)
                    clear hK K
                    try simp only [List.getElem_toArray, List.getElem_cons_zero, List.getElem_cons_succ, Act.put, List.setIfInBounds_toArray, List.set_cons_zero, List.set_cons_succ]
                    refine wpAnyH_done (by kernel_rfl) ?_ _
                    go_wp2_with fail
                    go_meet
                    exact ⟨{ st with jumps := st.jumps ++ [⟨st.out.length, m, lb⟩] }, .slice A7 (st.jumps.length + 1) d7, Lib.hid ⟨rfl, HE2.out⟩, HJ7⟩
                  · have c3 := HJ.out.ps.bk.cell 0
                    simp only [List.getElem?_cons_zero, List.getElem?_cons_succ] at c3
                    go_simp
                    refine hK _ _ trivial (fun hS => ?_)
                    clear hK K c3
                    try simp only [List.getElem_toArray, List.getElem_cons_zero, List.getElem_cons_succ, Act.put, List.setIfInBounds_toArray, List.set_cons_zero, List.set_cons_succ]
                    refine wpAnyH_take (i := 9) (v := ?_) rfl (by kernel_rfl) (by kernel_rfl) (by kernel_rfl) (fun _ _ _ h => h) (Or.inl ⟨by rfl, ?_⟩) hS ?_
                    rotate_left 1
                    · intro w' hSw
                      go_simp <;> with_reducible rfl
                    try simp only [List.getElem_toArray, List.getElem_cons_zero, List.getElem_cons_succ, Act.put, List.setIfInBounds_toArray, List.set_cons_zero, List.set_cons_succ]
                    refine wpAnyH_ready (rs := [4, 15]) (by kernel_rfl) (by simp) (AllReadyH.cons rfl (fun K hK => ?_) (AllReadyH.cons rfl (fun K hK => ?_) AllReadyH.nil))
                    · have c3 := HJ.out.ps.bk.cell 3
                      simp only [List.getElem?_cons_zero, List.getElem?_cons_succ] at c3
                      go_simp
                      refine hK _ _ trivial (fun hS => ?_)
                      clear hK K c3
                      try simp only [List.getElem_toArray, List.getElem_cons_zero, List.getElem_cons_succ, Act.put, List.setIfInBounds_toArray, List.set_cons_zero, List.set_cons_succ]
                      refine wpAnyH_ready (rs := [15]) (by kernel_rfl) (by simp) (AllReadyH.cons rfl (fun K hK => ?_) AllReadyH.nil)
                      go_simp
                      refine hK _ _ trivial (fun hS => ?_)
                      clear hK K
                      try simp only [List.getElem_toArray, List.getElem_cons_zero, List.getElem_cons_succ, Act.put, List.setIfInBounds_toArray, List.set_cons_zero, List.set_cons_succ]
                      refine wpAnyH_ready (rs := [16]) (by kernel_rfl) (by simp) (AllReadyH.cons rfl (fun K hK => ?_) AllReadyH.nil)
                      go_simp
                      have HJ := Lib.hid (HJ.out.alloc (.cells #[.int .i64 (st.out.length : Nat), .int .i64 n, .string ⟨lb.toArray⟩] 129))
                      have hny := Lib.hid (news_new wz [.int .i64 (st.out.length : Nat), .int .i64 n, .string ⟨lb.toArray⟩] 129)
                      refine hK _ _ trivial (fun hS => ?_)
                      clear hK K
                      generalize (wz.alloc (.cells #[.int .i64 (st.out.length : Nat), .int .i64 n, .string ⟨lb.toArray⟩] 129)) = wy at *
                      try simp only [List.getElem_toArray, List.getElem_cons_zero, List.getElem_cons_succ, Act.put, List.setIfInBounds_toArray, List.set_cons_zero, List.set_cons_succ]
                      refine wpAnyH_ready (rs := [17]) (by kernel_rfl) (by simp) (AllReadyH.cons rfl (fun K hK => ?_) AllReadyH.nil)
                      refine step_append_ownA (by rfl) (.tmp 80) (.tmp 92) 56 (by rfl) D 129 i0 _ 3 32 Tryz.underlying56 hi0 hz0 hz1 hz2 rfl (by decide) vj st.jumps.length (jmC st.jumps) (by rfl) HJ.out.ps.jumps (some ⟨wz.heap.size, 0, none⟩) 1 1 [.int .i64 (st.out.length : Nat), .int .i64 n, .string ⟨lb.toArray⟩] (by rfl) rfl (fun e => by cases e) (fun ad e => by injection e with e; subst e; exact hny.out) (by intro x hx; simp at hx; rcases hx with rfl | rfl | rfl <;> rfl) (by have := HSZ.out.2; unfold maxLen; omega) (by have := HSZ.out.2; omega) HJ.out.size ?_
                      intro v7 w7 hr7 hgr7
                      obtain ⟨A7, d7, rfl⟩ := own_slice hr7
                      have hbk7 := HJ.out.jbk hgr7
                      rw [HM.out] at hr7
                      have HJ7 := Lib.hid (HJ.out.jumped ⟨st.out.length, m, lb⟩ hr7 hgr7)
                      have f3 := hbk7.frozen 3
                      have c3 := hbk7.cell 3
                      simp only [List.getElem?_cons_zero, List.getElem?_cons_succ] at c3
                      refine hK _ _ trivial (fun hS => ?_)
                      clear hK K hr7 hgr7 hny hbk7
                      try simp only [List.getElem_toArray, List.getElem_cons_zero, List.getElem_cons_succ, Act.put, List.setIfInBounds_toArray, List.set_cons_zero, List.set_cons_succ]
                      refine wpAnyH_take (i := 18) (v := ?_) rfl (by kernel_rfl) (by kernel_rfl) (by kernel_rfl) (fun _ _ _ h => h) (Or.inl ⟨by rfl, ?_⟩) hS ?_
                      rotate_left 1
                      · intro w' hSw
                        go_simp <;> with_reducible rfl
                      try simp only [List.getElem_toArray, List.getElem_cons_zero, List.getElem_cons_succ, Act.put, List.setIfInBounds_toArray, List.set_cons_zero, List.set_cons_succ]
                      refine wpAnyH_take (i := 19) (v := ?_) rfl (by kernel_rfl) (by kernel_rfl) (by kernel_rfl) (fun _ _ _ h => h) (Or.inl ⟨by rfl, ?_⟩) hS ?_
                      rotate_left 1
                      · intro w' hSw
                        go_simp <;> with_reducible rfl
                      try simp only [List.getElem_toArray, List.getElem_cons_zero, List.getElem_cons_succ, Act.put, List.setIfInBounds_toArray, List.set_cons_zero, List.set_cons_succ]
                      refine wpAnyH_ready (rs := [20]) (by kernel_rfl) (by simp) (AllReadyH.cons rfl (fun K hK => ?_) AllReadyH.nil)
                      go_simp
                      refine hK _ _ trivial (fun hS => ?_)
                      clear hK K
                      try simp only [List.getElem_toArray, List.getElem_cons_zero, List.getElem_cons_succ, Act.put, List.setIfInBounds_toArray, List.set_cons_zero, List.set_cons_succ]
                      refine wpAnyH_done (by kernel_rfl) ?_ _
                      go_wp2_with fail
                      go_meet
                      exact ⟨{ st with jumps := st.jumps ++ [⟨st.out.length, m, lb⟩] }, .slice A7 (st.jumps.length + 1) d7, Lib.hid ⟨rfl, HE2.out⟩, HJ7⟩
                    · go_simp
                      refine hK _ _ trivial (fun hS => ?_)
                      clear hK K
                      try simp only [List.getElem_toArray, List.getElem_cons_zero, List.getElem_cons_succ, Act.put, List.setIfInBounds_toArray, List.set_cons_zero, List.set_cons_succ]
                      refine wpAnyH_ready (rs := [4, 16]) (by kernel_rfl) (by simp) (AllReadyH.cons rfl (fun K hK => ?_) (AllReadyH.cons rfl (fun K hK => ?_) AllReadyH.nil))
                      · have c3 := HJ.out.ps.bk.cell 3
                        simp only [List.getElem?_cons_zero, List.getElem?_cons_succ] at c3
                        go_simp
                        refine hK _ _ trivial (fun hS => ?_)
                        clear hK K c3
                        try simp only [List.getElem_toArray, List.getElem_cons_zero, List.getElem_cons_succ, Act.put, List.setIfInBounds_toArray, List.set_cons_zero, List.set_cons_succ]
                        refine wpAnyH_ready (rs := [16]) (by kernel_rfl) (by simp) (AllReadyH.cons rfl (fun K hK => ?_) AllReadyH.nil)
                        go_simp
                        have HJ := Lib.hid (HJ.out.alloc (.cells #[.int .i64 (st.out.length : Nat), .int .i64 n, .string ⟨lb.toArray⟩] 129))
                        have hny := Lib.hid (news_new wz [.int .i64 (st.out.length : Nat), .int .i64 n, .string ⟨lb.toArray⟩] 129)
                        refine hK _ _ trivial (fun hS => ?_)
                        clear hK K
                        generalize (wz.alloc (.cells #[.int .i64 (st.out.length : Nat), .int .i64 n, .string ⟨lb.toArray⟩] 129)) = wy at *
                        try simp only [List.getElem_toArray, List.getElem_cons_zero, List.getElem_cons_succ, Act.put, List.setIfInBounds_toArray, List.set_cons_zero, List.set_cons_succ]
                        refine wpAnyH_ready (rs := [17]) (by kernel_rfl) (by simp) (AllReadyH.cons rfl (fun K hK => ?_) AllReadyH.nil)
                        refine step_append_ownA (by rfl) (.tmp 80) (.tmp 92) 56 (by rfl) D 129 i0 _ 3 32 Tryz.underlying56 hi0 hz0 hz1 hz2 rfl (by decide) vj st.jumps.length (jmC st.jumps) (by rfl) HJ.out.ps.jumps (some ⟨wz.heap.size, 0, none⟩) 1 1 [.int .i64 (st.out.length : Nat), .int .i64 n, .string ⟨lb.toArray⟩] (by rfl) rfl (fun e => by cases e) (fun ad e => by injection e with e; subst e; exact hny.out) (by intro x hx; simp at hx; rcases hx with rfl | rfl | rfl <;> rfl) (by have := HSZ.out.2; unfold maxLen; omega) (by have := HSZ.out.2; omega) HJ.out.size ?_
                        intro v7 w7 hr7 hgr7
                        obtain ⟨A7, d7, rfl⟩ := own_slice hr7
                        have hbk7 := HJ.out.jbk hgr7
                        rw [HM.out] at hr7
                        have HJ7 := Lib.hid (HJ.out.jumped ⟨st.out.length, m, lb⟩ hr7 hgr7)
                        have f3 := hbk7.frozen 3
                        have c3 := hbk7.cell 3
                        simp only [List.getElem?_cons_zero, List.getElem?_cons_succ] at c3
                        refine hK _ _ trivial (fun hS => ?_)
                        clear hK K hr7 hgr7 hny hbk7
                        try simp only [List.getElem_toArray, List.getElem_cons_zero, List.getElem_cons_succ, Act.put, List.setIfInBounds_toArray, List.set_cons_zero, List.set_cons_succ]
                        refine wpAnyH_take (i := 18) (v := ?_) rfl (by kernel_rfl) (by kernel_rfl) (by kernel_rfl) (fun _ _ _ h => h) (Or.inl ⟨by rfl, ?_⟩) hS ?_
                        rotate_left 1
                        · intro w' hSw
                          go_simp <;> with_reducible rfl
                        try simp only [List.getElem_toArray, List.getElem_cons_zero, List.getElem_cons_succ, Act.put, List.setIfInBounds_toArray, List.set_cons_zero, List.set_cons_succ]
                        refine wpAnyH_take (i := 19) (v := ?_) rfl (by kernel_rfl) (by kernel_rfl) (by kernel_rfl) (fun _ _ _ h => h) (Or.inl ⟨by rfl, ?_⟩) hS ?_
                        rotate_left 1
                        · intro w' hSw
                          go_simp <;> with_reducible rfl
                        try simp only [List.getElem_toArray, List.getElem_cons_zero, List.getElem_cons_succ, Act.put, List.setIfInBounds_toArray, List.set_cons_zero, List.set_cons_succ]
                        refine wpAnyH_ready (rs := [20]) (by kernel_rfl) (by simp) (AllReadyH.cons rfl (fun K hK => ?_) AllReadyH.nil)
                        go_simp
                        refine hK _ _ trivial (fun hS => ?_)
                        clear hK K
                        try simp only [List.getElem_toArray, List.getElem_cons_zero, List.getElem_cons_succ, Act.put, List.setIfInBounds_toArray, List.set_cons_zero, List.set_cons_succ]
                        refine wpAnyH_done (by kernel_rfl) ?_ _
                        go_wp2_with fail
                        go_meet
                        exact ⟨{ st with jumps := st.jumps ++ [⟨st.out.length, m, lb⟩] }, .slice A7 (st.jumps.length + 1) d7, Lib.hid ⟨rfl, HE2.out⟩, HJ7⟩
                      · go_simp
                        have HJ := Lib.hid (HJ.out.alloc (.cells #[.int .i64 (st.out.length : Nat), .int .i64 n, .string ⟨lb.toArray⟩] 129))
                        have hny := Lib.hid (news_new wz [.int .i64 (st.out.length : Nat), .int .i64 n, .string ⟨lb.toArray⟩] 129)
                        refine hK _ _ trivial (fun hS => ?_)
                        clear hK K
                        generalize (wz.alloc (.cells #[.int .i64 (st.out.length : Nat), .int .i64 n, .string ⟨lb.toArray⟩] 129)) = wy at *
                        try simp only [List.getElem_toArray, List.getElem_cons_zero, List.getElem_cons_succ, Act.put, List.setIfInBounds_toArray, List.set_cons_zero, List.set_cons_succ]
                        refine wpAnyH_ready (rs := [4]) (by kernel_rfl) (by simp) (AllReadyH.cons rfl (fun K hK => ?_) AllReadyH.nil)
                        have c3 := HJ.out.ps.bk.cell 3
                        simp only [List.getElem?_cons_zero, List.getElem?_cons_succ] at c3
                        go_simp
                        refine hK _ _ trivial (fun hS => ?_)
                        clear hK K c3
                        try simp only [List.getElem_toArray, List.getElem_cons_zero, List.getElem_cons_succ, Act.put, List.setIfInBounds_toArray, List.set_cons_zero, List.set_cons_succ]
                        refine wpAnyH_ready (rs := [17]) (by kernel_rfl) (by simp) (AllReadyH.cons rfl (fun K hK => ?_) AllReadyH.nil)
                        refine step_append_ownA (by rfl) (.tmp 80) (.tmp 92) 56 (by rfl) D 129 i0 _ 3 32 Tryz.underlying56 hi0 hz0 hz1 hz2 rfl (by decide) vj st.jumps.length (jmC st.jumps) (by rfl) HJ.out.ps.jumps (some ⟨wz.heap.size, 0, none⟩) 1 1 [.int .i64 (st.out.length : Nat), .int .i64 n, .string ⟨lb.toArray⟩] (by rfl) rfl (fun e => by cases e) (fun ad e => by injection e with e; subst e; exact hny.out) (by intro x hx; simp at hx; rcases hx with rfl | rfl | rfl <;> rfl) (by have := HSZ.out.2; unfold maxLen; omega) (by have := HSZ.out.2; omega) HJ.out.size ?_
                        intro v7 w7 hr7 hgr7
                        obtain ⟨A7, d7, rfl⟩ := own_slice hr7
                        have hbk7 := HJ.out.jbk hgr7
                        rw [HM.out] at hr7
                        have HJ7 := Lib.hid (HJ.out.jumped ⟨st.out.length, m, lb⟩ hr7 hgr7)
                        have f3 := hbk7.frozen 3
                        have c3 := hbk7.cell 3
                        simp only [List.getElem?_cons_zero, List.getElem?_cons_succ] at c3
                        refine hK _ _ trivial (fun hS => ?_)
                        clear hK K hr7 hgr7 hny hbk7
                        try simp only [List.getElem_toArray, List.getElem_cons_zero, List.getElem_cons_succ, Act.put, List.setIfInBounds_toArray, List.set_cons_zero, List.set_cons_succ]
                        refine wpAnyH_take (i := 18) (v := ?_) rfl (by kernel_rfl) (by kernel_rfl) (by kernel_rfl) (fun _ _ _ h => h) (Or.inl ⟨by rfl, ?_⟩) hS ?_
                        rotate_left 1
                        · intro w' hSw
                          go_simp <;> with_reducible rfl
                        try simp only [List.getElem_toArray, List.getElem_cons_zero, List.getElem_cons_succ, Act.put, List.setIfInBounds_toArray, List.set_cons_zero, List.set_cons_succ]
                        refine wpAnyH_take (i := 19) (v := ?_) rfl (by kernel_rfl) (by kernel_rfl) (by kernel_rfl) (fun _ _ _ h => h) (Or.inl ⟨by rfl, ?_⟩) hS ?_
                        rotate_left 1
                        · intro w' hSw
                          go_simp <;> with_reducible rfl
                        try simp only [List.getElem_toArray, List.getElem_cons_zero, List.getElem_cons_succ, Act.put, List.setIfInBounds_toArray, List.set_cons_zero, List.set_cons_succ]
                        refine wpAnyH_ready (rs := [20]) (by kernel_rfl) (by simp) (AllReadyH.cons rfl (fun K hK => ?_) AllReadyH.nil)
                        go_simp
                        refine hK _ _ trivial (fun hS => ?_)
                        clear hK K
                        try simp only [List.getElem_toArray, List.getElem_cons_zero, List.getElem_cons_succ, Act.put, List.setIfInBounds_toArray, List.set_cons_zero, List.set_cons_succ]
                        refine wpAnyH_done (by kernel_rfl) ?_ _
                        go_wp2_with fail
                        go_meet
                        exact ⟨{ st with jumps := st.jumps ++ [⟨st.out.length, m, lb⟩] }, .slice A7 (st.jumps.length + 1) d7, Lib.hid ⟨rfl, HE2.out⟩, HJ7⟩
            case rest =>
              clear e1 e2 e3 e4 e5 e6 e7 e8 e9 p1 HE HJ
              obtain ⟨st2, vj2, HX, HJ⟩ := hcut
              obtain ⟨i0, hi0, hz0, hz1, hz2⟩ := info_ins
              go_wp2_with fail
              refine wp_region_held_drew (S := fun _ => True) (by kernel_rfl) trivial (fun hS => ?_)
              have HJ := Lib.hid HJ.out.drew
              generalize (_ : World).drew = wz at *
              refine wpAnyH_norm 14 (Array.replicate 14 false) rfl rfl ?_
              refine wpAnyH_take (i := 0) (v := ?_) rfl (by kernel_rfl) (by kernel_rfl) (by kernel_rfl) (fun _ _ _ h => h) (Or.inl ⟨by rfl, ?_⟩) hS ?_
              rotate_left 1
              · intro w' hSw
                go_simp <;> with_reducible rfl
              try simp only [List.getElem_toArray, List.getElem_cons_zero, List.getElem_cons_succ, Act.put, List.setIfInBounds_toArray, List.set_cons_zero, List.set_cons_succ]
              refine wpAnyH_take (i := 1) (v := ?_) rfl (by kernel_rfl) (by kernel_rfl) (by kernel_rfl) (fun _ _ _ h => h) (Or.inl ⟨by rfl, ?_⟩) hS ?_
              rotate_left 1
              · intro w' hSw
                go_simp <;> with_reducible rfl
              try simp only [List.getElem_toArray, List.getElem_cons_zero, List.getElem_cons_succ, Act.put, List.setIfInBounds_toArray, List.set_cons_zero, List.set_cons_succ]
              refine wpAnyH_take (i := 2) (v := ?_) rfl (by kernel_rfl) (by kernel_rfl) (by kernel_rfl) (fun _ _ _ h => h) (Or.inl ⟨by rfl, ?_⟩) hS ?_
              rotate_left 1
              · intro w' hSw
                go_simp <;> with_reducible rfl
              try simp only [List.getElem_toArray, List.getElem_cons_zero, List.getElem_cons_succ, Act.put, List.setIfInBounds_toArray, List.set_cons_zero, List.set_cons_succ]
              refine wpAnyH_take (i := 3) (v := ?_) rfl (by kernel_rfl) (by kernel_rfl) (by kernel_rfl) (fun _ _ _ h => h) (Or.inl ⟨by rfl, ?_⟩) hS ?_
              rotate_left 1
              · intro w' hSw
                go_simp <;> with_reducible rfl
              try simp only [List.getElem_toArray, List.getElem_cons_zero, List.getElem_cons_succ, Act.put, List.setIfInBounds_toArray, List.set_cons_zero, List.set_cons_succ]
              refine wpAnyH_take (i := 5) (v := ?_) rfl (by kernel_rfl) (by kernel_rfl) (by kernel_rfl) (fun _ _ _ h => h) (Or.inl ⟨by rfl, ?_⟩) hS ?_
              rotate_left 1
              · intro w' hSw
                go_simp <;> with_reducible rfl
              try simp only [List.getElem_toArray, List.getElem_cons_zero, List.getElem_cons_succ, Act.put, List.setIfInBounds_toArray, List.set_cons_zero, List.set_cons_succ]
              refine wpAnyH_take (i := 6) (v := ?_) rfl (by kernel_rfl) (by kernel_rfl) (by kernel_rfl) (fun _ _ _ h => h) (Or.inl ⟨by rfl, ?_⟩) hS ?_
              rotate_left 1
              · intro w' hSw
                go_simp <;> with_reducible rfl
              try simp only [List.getElem_toArray, List.getElem_cons_zero, List.getElem_cons_succ, Act.put, List.setIfInBounds_toArray, List.set_cons_zero, List.set_cons_succ]
              refine wpAnyH_take (i := 7) (v := ?_) rfl (by kernel_rfl) (by kernel_rfl) (by kernel_rfl) (fun _ _ _ h => h) (Or.inl ⟨by rfl, ?_⟩) hS ?_
              rotate_left 1
              · intro w' hSw
                go_simp <;> with_reducible rfl
              try simp only [List.getElem_toArray, List.getElem_cons_zero, List.getElem_cons_succ, Act.put, List.setIfInBounds_toArray, List.set_cons_zero, List.set_cons_succ]
              refine wpAnyH_norm 7 #[true, true, true, true, false, true, true, true, false, false, false, false, false, false] (by kernel_rfl) (by kernel_rfl) ?_
              refine wpAnyH_ready (rs := [4, 8]) (by kernel_rfl) (by simp) (AllReadyH.cons rfl (fun K hK => ?_) (AllReadyH.cons rfl (fun K hK => ?_) AllReadyH.nil))
              · have c3 := HJ.out.ps.bk.cell 0
                simp only [List.getElem?_cons_zero, List.getElem?_cons_succ] at c3
                go_simp
                refine hK _ _ trivial (fun hS => ?_)
                clear hK K c3
                try simp only [List.getElem_toArray, List.getElem_cons_zero, List.getElem_cons_succ, Act.put, List.setIfInBounds_toArray, List.set_cons_zero, List.set_cons_succ]
                refine wpAnyH_ready (rs := [8]) (by kernel_rfl) (by simp) (AllReadyH.cons rfl (fun K hK => ?_) AllReadyH.nil)
                obtain ⟨e1, e2, e3, e4, e5, e6, e7, e8, e9⟩ := HJ.out.cells
                go_simp
                refine hK _ _ trivial (fun hS => ?_)
                clear hK K e1 e2 e3 e4 e5 e6 e7 e8 e9
                try simp only [List.getElem_toArray, List.getElem_cons_zero, List.getElem_cons_succ, Act.put, List.setIfInBounds_toArray, List.set_cons_zero, List.set_cons_succ]
                refine wpAnyH_ready (rs := [9]) (by kernel_rfl) (by simp) (AllReadyH.cons rfl (fun K hK => ?_) AllReadyH.nil)
                go_simp
                have HJ := Lib.hid (HJ.out.alloc (.cells #[.int .u8 o1, .bool o2, .int .i64 o3, .int .i64 o4, .bool o5, .int .i64 o6, .int .i64 o7, .int .i64 o8] 40))
                have hny := Lib.hid (news_new wz [.int .u8 o1, .bool o2, .int .i64 o3, .int .i64 o4, .bool o5, .int .i64 o6, .int .i64 o7, .int .i64 o8] 40)
                refine hK _ _ trivial (fun hS => ?_)
                clear hK K
                generalize (wz.alloc (.cells #[.int .u8 o1, .bool o2, .int .i64 o3, .int .i64 o4, .bool o5, .int .i64 o6, .int .i64 o7, .int .i64 o8] 40)) = wy at *
                try simp only [List.getElem_toArray, List.getElem_cons_zero, List.getElem_cons_succ, Act.put, List.setIfInBounds_toArray, List.set_cons_zero, List.set_cons_succ]
                refine wpAnyH_ready (rs := [10]) (by kernel_rfl) (by simp) (AllReadyH.cons rfl (fun K hK => ?_) AllReadyH.nil)
                refine step_append_ownA (by rfl) (.tmp 100) (.tmp 105) 23 (by rfl) D 40 i0 _ 8 56 Tryz.underlying23 hi0 hz0 hz1 hz2 rfl (by decide) (.slice Ao st.out.length co) st2.out.length (outC st2.out) (by rfl) HJ.out.ps.out (some ⟨wz.heap.size, 0, none⟩) 1 1 [.int .u8 o1, .bool o2, .int .i64 o3, .int .i64 o4, .bool o5, .int .i64 o6, .int .i64 o7, .int .i64 o8] (by rfl) rfl (fun e => by cases e) (fun ad e => by injection e with e; subst e; exact hny.out) (by intro x hx; simp at hx; rcases hx with rfl | rfl | rfl | rfl | rfl | rfl | rfl | rfl <;> rfl) (by have := HSZ.out.1; rw [HX.out.1]; unfold maxLen; omega) (by have := HSZ.out.1; rw [HX.out.1]; omega) HJ.out.size ?_
                intro v7 w7 hr7 hgr7
                obtain ⟨A7, d7, rfl⟩ := own_slice hr7
                have hbk7 := HJ.out.obk hgr7
                have HJ7 := Lib.hid (HJ.out.outed hr7 hgr7)
                have f3 := hbk7.frozen 0
                have c3 := hbk7.cell 0
                simp only [List.getElem?_cons_zero, List.getElem?_cons_succ] at c3
                refine hK _ _ trivial (fun hS => ?_)
                clear hK K hr7 hgr7 hny hbk7
                try simp only [List.getElem_toArray, List.getElem_cons_zero, List.getElem_cons_succ, Act.put, List.setIfInBounds_toArray, List.set_cons_zero, List.set_cons_succ]
                refine wpAnyH_take (i := 11) (v := ?_) rfl (by kernel_rfl) (by kernel_rfl) (by kernel_rfl) (fun _ _ _ h => h) (Or.inl ⟨by rfl, ?_⟩) hS ?_
                rotate_left 1
                · intro w' hSw
                  go_simp <;> with_reducible rfl
                try simp only [List.getElem_toArray, List.getElem_cons_zero, List.getElem_cons_succ, Act.put, List.setIfInBounds_toArray, List.set_cons_zero, List.set_cons_succ]
                refine wpAnyH_take (i := 12) (v := ?_) rfl (by kernel_rfl) (by kernel_rfl) (by kernel_rfl) (fun _ _ _ h => h) (Or.inl ⟨by rfl, ?_⟩) hS ?_
                rotate_left 1
                · intro w' hSw
                  go_simp <;> with_reducible rfl
                try simp only [List.getElem_toArray, List.getElem_cons_zero, List.getElem_cons_succ, Act.put, List.setIfInBounds_toArray, List.set_cons_zero, List.set_cons_succ]
                refine wpAnyH_ready (rs := [13]) (by kernel_rfl) (by simp) (AllReadyH.cons rfl (fun K hK => ?_) AllReadyH.nil)
                go_simp
                refine hK _ _ trivial (fun hS => ?_)
                clear hK K
                try simp only [List.getElem_toArray, List.getElem_cons_zero, List.getElem_cons_succ, Act.put, List.setIfInBounds_toArray, List.set_cons_zero, List.set_cons_succ]
                refine wpAnyH_done (by kernel_rfl) ?_ _
                go_wp2_with fail
                first
                  | exact bodyPost_end (v := .tuple #[]) (by simp [results, Tryz.results27, go_sem]) rfl (LineR.ok HX.out.2 HJ7.out.1 HJ7.out.2)
                  | exact bodyPost_ret (v := .tuple #[]) (by simp [results, Tryz.results27, go_sem]) rfl (LineR.ok HX.out.2 HJ7.out.1 HJ7.out.2)
              · obtain ⟨e1, e2, e3, e4, e5, e6, e7, e8, e9⟩ := HJ.out.cells
                go_simp
                refine hK _ _ trivial (fun hS => ?_)
                clear hK K e1 e2 e3 e4 e5 e6 e7 e8 e9
                try simp only [List.getElem_toArray, List.getElem_cons_zero, List.getElem_cons_succ, Act.put, List.setIfInBounds_toArray, List.set_cons_zero, List.set_cons_succ]
                refine wpAnyH_ready (rs := [4, 9]) (by kernel_rfl) (by simp) (AllReadyH.cons rfl (fun K hK => ?_) (AllReadyH.cons rfl (fun K hK => ?_) AllReadyH.nil))
                · have c3 := HJ.out.ps.bk.cell 0
                  simp only [List.getElem?_cons_zero, List.getElem?_cons_succ] at c3
                  go_simp
                  refine hK _ _ trivial (fun hS => ?_)
                  clear hK K c3
                  try simp only [List.getElem_toArray, List.getElem_cons_zero, List.getElem_cons_succ, Act.put, List.setIfInBounds_toArray, List.set_cons_zero, List.set_cons_succ]
                  refine wpAnyH_ready (rs := [9]) (by kernel_rfl) (by simp) (AllReadyH.cons rfl (fun K hK => ?_) AllReadyH.nil)
                  go_simp
                  have HJ := Lib.hid (HJ.out.alloc (.cells #[.int .u8 o1, .bool o2, .int .i64 o3, .int .i64 o4, .bool o5, .int .i64 o6, .int .i64 o7, .int .i64 o8] 40))
                  have hny := Lib.hid (news_new wz [.int .u8 o1, .bool o2, .int .i64 o3, .int .i64 o4, .bool o5, .int .i64 o6, .int .i64 o7, .int .i64 o8] 40)
                  refine hK _ _ trivial (fun hS => ?_)
                  clear hK K
                  generalize (wz.alloc (.cells #[.int .u8 o1, .bool o2, .int .i64 o3, .int .i64 o4, .bool o5, .int .i64 o6, .int .i64 o7, .int .i64 o8] 40)) = wy at *
                  try simp only [List.getElem_toArray, List.getElem_cons_zero, List.getElem_cons_succ, Act.put, List.setIfInBounds_toArray, List.set_cons_zero, List.set_cons_succ]
                  refine wpAnyH_ready (rs := [10]) (by kernel_rfl) (by simp) (AllReadyH.cons rfl (fun K hK => ?_) AllReadyH.nil)
                  refine step_append_ownA (by rfl) (.tmp 100) (.tmp 105) 23 (by rfl) D 40 i0 _ 8 56 Tryz.underlying23 hi0 hz0 hz1 hz2 rfl (by decide) (.slice Ao st.out.length co) st2.out.length (outC st2.out) (by rfl) HJ.out.ps.out (some ⟨wz.heap.size, 0, none⟩) 1 1 [.int .u8 o1, .bool o2, .int .i64 o3, .int .i64 o4, .bool o5, .int .i64 o6, .int .i64 o7, .int .i64 o8] (by rfl) rfl (fun e => by cases e) (fun ad e => by injection e with e; subst e; exact hny.out) (by intro x hx; simp at hx; rcases hx with rfl | rfl | rfl | rfl | rfl | rfl | rfl | rfl <;> rfl) (by have := HSZ.out.1; rw [HX.out.1]; unfold maxLen; omega) (by have := HSZ.out.1; rw [HX.out.1]; omega) HJ.out.size ?_
                  intro v7 w7 hr7 hgr7
                  obtain ⟨A7, d7, rfl⟩ := own_slice hr7
                  have hbk7 := HJ.out.obk hgr7
                  have HJ7 := Lib.hid (HJ.out.outed hr7 hgr7)
                  have f3 := hbk7.frozen 0
                  have c3 := hbk7.cell 0
                  simp only [List.getElem?_cons_zero, List.getElem?_cons_succ] at c3
                  refine hK _ _ trivial (fun hS => ?_)
                  clear hK K hr7 hgr7 hny hbk7
                  try simp only [List.getElem_toArray, List.getElem_cons_zero, List.getElem_cons_succ, Act.put, List.setIfInBounds_toArray, List.set_cons_zero, List.set_cons_succ]
                  refine wpAnyH_take (i := 11) (v := ?_) rfl (by kernel_rfl) (by kernel_rfl) (by kernel_rfl) (fun _ _ _ h => h) (Or.inl ⟨by rfl, ?_⟩) hS ?_
                  rotate_left 1
                  · intro w' hSw
                    go_simp <;> with_reducible rfl
                  try simp only [List.getElem_toArray, List.getElem_cons_zero, List.getElem_cons_succ, Act.put, List.setIfInBounds_toArray, List.set_cons_zero, List.set_cons_succ]
                  refine wpAnyH_take (i := 12) (v := ?_) rfl (by kernel_rfl) (by kernel_rfl) (by kernel_rfl) (fun _ _ _ h => h) (Or.inl ⟨by rfl, ?_⟩) hS ?_
                  rotate_left 1
                  · intro w' hSw
                    go_simp <;> with_reducible rfl
                  try simp only [List.getElem_toArray, List.getElem_cons_zero, List.getElem_cons_succ, Act.put, List.setIfInBounds_toArray, List.set_cons_zero, List.set_cons_succ]
                  refine wpAnyH_ready (rs := [13]) (by kernel_rfl) (by simp) (AllReadyH.cons rfl (fun K hK => ?_) AllReadyH.nil)
                  go_simp
                  refine hK _ _ trivial (fun hS => ?_)
                  clear hK K
                  try simp only [List.getElem_toArray, List.getElem_cons_zero, List.getElem_cons_succ, Act.put, List.setIfInBounds_toArray, List.set_cons_zero, List.set_cons_succ]
                  refine wpAnyH_done (by kernel_rfl) ?_ _
                  go_wp2_with fail
                  first
                    | exact bodyPost_end (v := .tuple #[]) (by simp [results, Tryz.results27, go_sem]) rfl (LineR.ok HX.out.2 HJ7.out.1 HJ7.out.2)
                    | exact bodyPost_ret (v := .tuple #[]) (by simp [results, Tryz.results27, go_sem]) rfl (LineR.ok HX.out.2 HJ7.out.1 HJ7.out.2)
                · go_simp
                  have HJ := Lib.hid (HJ.out.alloc (.cells #[.int .u8 o1, .bool o2, .int .i64 o3, .int .i64 o4, .bool o5, .int .i64 o6, .int .i64 o7, .int .i64 o8] 40))
                  have hny := Lib.hid (news_new wz [.int .u8 o1, .bool o2, .int .i64 o3, .int .i64 o4, .bool o5, .int .i64 o6, .int .i64 o7, .int .i64 o8] 40)
                  refine hK _ _ trivial (fun hS => ?_)
                  clear hK K
                  generalize (wz.alloc (.cells #[.int .u8 o1, .bool o2, .int .i64 o3, .int .i64 o4, .bool o5, .int .i64 o6, .int .i64 o7, .int .i64 o8] 40)) = wy at *
                  try simp only [List.getElem_toArray, List.getElem_cons_zero, List.getElem_cons_succ, Act.put, List.setIfInBounds_toArray, List.set_cons_zero, List.set_cons_succ]
                  refine wpAnyH_ready (rs := [4]) (by kernel_rfl) (by simp) (AllReadyH.cons rfl (fun K hK => ?_) AllReadyH.nil)
                  have c3 := HJ.out.ps.bk.cell 0
                  simp only [List.getElem?_cons_zero, List.getElem?_cons_succ] at c3
                  go_simp
                  refine hK _ _ trivial (fun hS => ?_)
                  clear hK K c3
                  try simp only [List.getElem_toArray, List.getElem_cons_zero, List.getElem_cons_succ, Act.put, List.setIfInBounds_toArray, List.set_cons_zero, List.set_cons_succ]
                  refine wpAnyH_ready (rs := [10]) (by kernel_rfl) (by simp) (AllReadyH.cons rfl (fun K hK => ?_) AllReadyH.nil)
                  refine step_append_ownA (by rfl) (.tmp 100) (.tmp 105) 23 (by rfl) D 40 i0 _ 8 56 Tryz.underlying23 hi0 hz0 hz1 hz2 rfl (by decide) (.slice Ao st.out.length co) st2.out.length (outC st2.out) (by rfl) HJ.out.ps.out (some ⟨wz.heap.size, 0, none⟩) 1 1 [.int .u8 o1, .bool o2, .int .i64 o3, .int .i64 o4, .bool o5, .int .i64 o6, .int .i64 o7, .int .i64 o8] (by rfl) rfl (fun e => by cases e) (fun ad e => by injection e with e; subst e; exact hny.out) (by intro x hx; simp at hx; rcases hx with rfl | rfl | rfl | rfl | rfl | rfl | rfl | rfl <;> rfl) (by have := HSZ.out.1; rw [HX.out.1]; unfold maxLen; omega) (by have := HSZ.out.1; rw [HX.out.1]; omega) HJ.out.size ?_
                  intro v7 w7 hr7 hgr7
                  obtain ⟨A7, d7, rfl⟩ := own_slice hr7
                  have hbk7 := HJ.out.obk hgr7
                  have HJ7 := Lib.hid (HJ.out.outed hr7 hgr7)
                  have f3 := hbk7.frozen 0
                  have c3 := hbk7.cell 0
                  simp only [List.getElem?_cons_zero, List.getElem?_cons_succ] at c3
                  refine hK _ _ trivial (fun hS => ?_)
                  clear hK K hr7 hgr7 hny hbk7
                  try simp only [List.getElem_toArray, List.getElem_cons_zero, List.getElem_cons_succ, Act.put, List.setIfInBounds_toArray, List.set_cons_zero, List.set_cons_succ]
                  refine wpAnyH_take (i := 11) (v := ?_) rfl (by kernel_rfl) (by kernel_rfl) (by kernel_rfl) (fun _ _ _ h => h) (Or.inl ⟨by rfl, ?_⟩) hS ?_
                  rotate_left 1
                  · intro w' hSw
                    go_simp <;> with_reducible rfl
                  try simp only [List.getElem_toArray, List.getElem_cons_zero, List.getElem_cons_succ, Act.put, List.setIfInBounds_toArray, List.set_cons_zero, List.set_cons_succ]
                  refine wpAnyH_take (i := 12) (v := ?_) rfl (by kernel_rfl) (by kernel_rfl) (by kernel_rfl) (fun _ _ _ h => h) (Or.inl ⟨by rfl, ?_⟩) hS ?_
                  rotate_left 1
                  · intro w' hSw
                    go_simp <;> with_reducible rfl
                  try simp only [List.getElem_toArray, List.getElem_cons_zero, List.getElem_cons_succ, Act.put, List.setIfInBounds_toArray, List.set_cons_zero, List.set_cons_succ]
                  refine wpAnyH_ready (rs := [13]) (by kernel_rfl) (by simp) (AllReadyH.cons rfl (fun K hK => ?_) AllReadyH.nil)
                  go_simp
                  refine hK _ _ trivial (fun hS => ?_)
                  clear hK K
                  try simp only [List.getElem_toArray, List.getElem_cons_zero, List.getElem_cons_succ, Act.put, List.setIfInBounds_toArray, List.set_cons_zero, List.set_cons_succ]
                  refine wpAnyH_done (by kernel_rfl) ?_ _
                  go_wp2_with fail
                  first
                    | exact bodyPost_end (v := .tuple #[]) (by simp [results, Tryz.results27, go_sem]) rfl (LineR.ok HX.out.2 HJ7.out.1 HJ7.out.2)
                    | exact bodyPost_ret (v := .tuple #[]) (by simp [results, Tryz.results27, go_sem]) rfl (LineR.ok HX.out.2 HJ7.out.1 HJ7.out.2)
        · have hg : rightP i' = false := by simpa using hg
          rw [hg] at HRT
          have HE := Lib.hid (HW1.out.2.1 hg)
          obtain ⟨o1, o2, o3, o4, o5, o6, o7, o8⟩ := i'
          unfold ivV at HRT
          clear hg HW1
          go_wp2_with fail
          (with_reducible refine (HRT.out _).mono ?_)
          rintro _ wz ⟨rfl, bz⟩
          have HBL := Lib.hid (HJ.out.below bz).low
          have HBD2 := Lib.hid (bad_any (HRW.out.below bz))
          clear HBD HJ
          go_wp2_with fail
          (with_reducible refine HBD2.out.mono ?_)
          rintro _ wq ⟨rfl, rfl⟩
          refine ⟨rfl, ?_⟩
          obtain rfl := HM.out
          exact LineR.err HE.out HBL.out
      · have HE := Lib.hid (HW1.out.1 hr)
        have hl := List.length_pos_iff.2 hr
        have q5 : (0 : Int) < (r.length : Int) := by omega
        clear hr HW1
        go_wp2_with fail
        (with_reducible refine HBD.out.mono ?_)
        rintro _ wq ⟨rfl, rfl⟩
        refine ⟨rfl, ?_⟩
        obtain rfl := HM.out
        exact LineR.err HE.out HBL.out
end Go.Proofs.YtjebjninlejoeaaGreatDoor

