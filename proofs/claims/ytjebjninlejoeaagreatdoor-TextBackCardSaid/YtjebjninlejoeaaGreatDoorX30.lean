/- text, the walk: an unknown word. -/
import Derived.Test.YtjebjninlejoeaaGreatDoorX29
namespace Go.Proofs.YtjebjninlejoeaaGreatDoor
open Go.RowKit Go.Maps Go.ChangeMaps
set_option linter.unusedVariables false
set_option linter.unusedSimpArgs false
set_option linter.unusedSectionVars false
set_option maxRecDepth 100000

set_option maxHeartbeats 2000000 in
theorem line_unknown (s : Nm) (hs : s.length ≤ 1000000) (n : Int) {B P Wm M : Nat} {st : PS} {vo vj : Value} (w : World) (hv : Tv B w) (hB : B ≤ w.heap.size) {s0 : Nm} {t : List Nm} (ht : toks s = some (s0 :: t)) (hm : markT (s0 :: t) = none) (hs0 : s0.length ≤ 1000000) {D : Nat} (hp : PsAt w D P Wm M st vo vj) (hw : wayP s0 = none) : Calls Tryz.prog 27 #[.pointer (some ⟨P, 0, none⟩), .string ⟨s.toArray⟩, .int .i64 n] w fun x w' => x = Thrown 120 n ∧ Below w.heap.size w w' := by
  have hS := split_word s hs n P w hv hB ht hm
  have HP := Lib.hid hp
  have HW := Lib.hid hw
  have HS0 := Lib.hid hs0
  clear ht hm hp hw hs0
  go_enter Tryz.func27, Tryz.ntmps27
  go_wp2_with fail
  (with_reducible refine hS.mono ?_)
  rintro _ w1 ⟨N, c, A, rfl, c0, b1, hlo, hrow, hk⟩
  clear hS
  have d1 : decide (((t.length + 1 : Nat) : Int) = 0) = false := decide_eq_false (by omega)
  have d2 : decide ((t.length : Int) + 1 = 0) = false := decide_eq_false (by omega)
  have HI : Hid (LI w D P Wm M N w1.heap.size st vo vj n (s0 :: t) w1) := Lib.hid ⟨b1.out, HP.out.below b1.out, hrow.out.within, hlo.out, fun b hb => (HP.out.lt hb).2, Nat.le_refl _⟩
  go_wp2_with fail
  (with_reducible refine hk.out.mono ?_)
  rintro _ w2 ⟨rfl, rfl⟩
  clear hk
  go_wp2_with fail
  refine wp_region_held_drew (S := fun _ => True) (by kernel_rfl) trivial (fun hS => ?_)
  have HI := Lib.hid HI.out.drew
  clear hrow b1 c0
  generalize w2.drew = wz at *
  refine wpAnyH_norm 13 (Array.replicate 13 false) rfl rfl ?_
  refine wpAnyH_take (i := 0) (v := ?_) rfl (by kernel_rfl) (by kernel_rfl) (by kernel_rfl) (fun _ _ _ h => h) (Or.inl ⟨by rfl, ?_⟩) hS ?_
  rotate_left 1
  · intro w' hSw
    go_simp <;> with_reducible rfl
  try simp only [List.getElem_toArray, List.getElem_cons_zero, List.getElem_cons_succ, Act.put, List.setIfInBounds_toArray, List.set_cons_zero, List.set_cons_succ]
  refine wpAnyH_take (i := 1) (v := ?_) rfl (by kernel_rfl) (by kernel_rfl) (by kernel_rfl) (fun _ _ _ h => h) (Or.inl ⟨by rfl, ?_⟩) hS ?_
  rotate_left 1
  · intro w' hSw
    go_simp <;> with_reducible rfl
  try simp only [List.getElem_toArray, List.getElem_cons_zero, List.getElem_cons_succ, Act.put, List.setIfInBounds_toArray, List.set_cons_zero, List.set_cons_succ]
  refine wpAnyH_take (i := 2) (v := ?_) rfl (by kernel_rfl) (by kernel_rfl) (by kernel_rfl) (fun _ _ _ h => h) (Or.inl ⟨by rfl, ?_⟩) hS ?_
  rotate_left 1
  · intro w' hSw
    go_simp <;> with_reducible rfl
  try simp only [List.getElem_toArray, List.getElem_cons_zero, List.getElem_cons_succ, Act.put, List.setIfInBounds_toArray, List.set_cons_zero, List.set_cons_succ]
  refine wpAnyH_take (i := 4) (v := ?_) rfl (by kernel_rfl) (by kernel_rfl) (by kernel_rfl) (fun _ _ _ h => h) (Or.inl ⟨by rfl, ?_⟩) hS ?_
  rotate_left 1
  · intro w' hSw
    go_simp <;> with_reducible rfl
  try simp only [List.getElem_toArray, List.getElem_cons_zero, List.getElem_cons_succ, Act.put, List.setIfInBounds_toArray, List.set_cons_zero, List.set_cons_succ]
  refine wpAnyH_norm 9 #[true, true, true, false, true, false, false, false, false, false, false, false, false] (by kernel_rfl) (by kernel_rfl) ?_
  refine wpAnyH_ready (rs := [3, 5, 10]) (by kernel_rfl) (by simp) (AllReadyH.cons rfl (fun K hK => ?_) (AllReadyH.cons rfl (fun K hK => ?_) (AllReadyH.cons rfl (fun K hK => ?_) AllReadyH.nil)))
  · have cw := HI.out.ways
    go_simp
    refine hK _ _ trivial (fun hS => ?_)
    clear hK K cw
    try simp only [List.getElem_toArray, List.getElem_cons_zero, List.getElem_cons_succ, Act.put, List.setIfInBounds_toArray, List.set_cons_zero, List.set_cons_succ]
    refine wpAnyH_ready (rs := [5, 10]) (by kernel_rfl) (by simp) (AllReadyH.cons rfl (fun K hK => ?_) (AllReadyH.cons rfl (fun K hK => ?_) AllReadyH.nil))
    · go_simp
      (with_reducible refine (take_any HI.out.row HI.out.row.ltN).mono ?_)
      rintro _ wz ⟨rfl, r5, a5⟩
      have HI := Lib.hid (HI.out.took r5 a5)
      first | (have HK := Lib.hid (show Bk wz _ _ _ from (a5.block _ HK.out.lt HN.out).trans HK.out)) | skip
      go_simp
      refine hK _ _ trivial (fun hS => ?_)
      clear hK K
      try simp only [List.getElem_toArray, List.getElem_cons_zero, List.getElem_cons_succ, Act.put, List.setIfInBounds_toArray, List.set_cons_zero, List.set_cons_succ]
      refine wpAnyH_ready (rs := [6, 10]) (by kernel_rfl) (by simp) (AllReadyH.cons rfl (fun K hK => ?_) (AllReadyH.cons rfl (fun K hK => ?_) AllReadyH.nil))
      · have hl := HI.out.ps.ways.look2 wayTy s0 HS0.out zeroWay
        rw [HW.out] at hl
        simp only [Option.map_none, Option.getD_none, Option.isSome_none] at hl
        unfold nmV at hl
        go_simp
        refine hK _ _ trivial (fun hS => ?_)
        clear hK K hl
        try simp only [List.getElem_toArray, List.getElem_cons_zero, List.getElem_cons_succ, Act.put, List.setIfInBounds_toArray, List.set_cons_zero, List.set_cons_succ]
        refine wpAnyH_take (i := 7) (v := ?_) rfl (by kernel_rfl) (by kernel_rfl) (by kernel_rfl) (fun _ _ _ h => h) (Or.inl ⟨by rfl, ?_⟩) hS ?_
        rotate_left 1
        · intro w' hSw
          go_simp <;> with_reducible rfl
        try simp only [List.getElem_toArray, List.getElem_cons_zero, List.getElem_cons_succ, Act.put, List.setIfInBounds_toArray, List.set_cons_zero, List.set_cons_succ]
        refine wpAnyH_take (i := 8) (v := ?_) rfl (by kernel_rfl) (by kernel_rfl) (by kernel_rfl) (fun _ _ _ h => h) (Or.inl ⟨by rfl, ?_⟩) hS ?_
        rotate_left 1
        · intro w' hSw
          go_simp <;> with_reducible rfl
        try simp only [List.getElem_toArray, List.getElem_cons_zero, List.getElem_cons_succ, Act.put, List.setIfInBounds_toArray, List.set_cons_zero, List.set_cons_succ]
        refine wpAnyH_take (i := 9) (v := ?_) rfl (by kernel_rfl) (by kernel_rfl) (by kernel_rfl) (fun _ _ _ h => h) (Or.inl ⟨by rfl, ?_⟩) hS ?_
        rotate_left 1
        · intro w' hSw
          go_simp <;> with_reducible rfl
        try simp only [List.getElem_toArray, List.getElem_cons_zero, List.getElem_cons_succ, Act.put, List.setIfInBounds_toArray, List.set_cons_zero, List.set_cons_succ]
        refine wpAnyH_ready (rs := [10]) (by kernel_rfl) (by simp) (AllReadyH.cons rfl (fun K hK => ?_) AllReadyH.nil)
        have HN := Lib.hid (show wz.heap.size ≠ N by have := HI.out.row.ltN; omega)
        have HF := Lib.hid (And.intro HI.out.low.size HI.out.sz)
        have HK := Lib.hid (Bk.new wz 114 [.int .u8 0, .bool false, .int .i64 0, .int .i64 0, .bool false, .int .i64 0, .int .i64 0, .int .i64 0, .nilFunc])
        have HI := Lib.hid (HI.out.alloc (.cells [.int .u8 0, .bool false, .int .i64 0, .int .i64 0, .bool false, .int .i64 0, .int .i64 0, .int .i64 0, .nilFunc].toArray 114))
        go_simp
        refine hK _ _ trivial (fun hS => ?_)
        clear hK K
        generalize wz.alloc (.cells #[.int .u8 0, .bool false, .int .i64 0, .int .i64 0, .bool false, .int .i64 0, .int .i64 0, .int .i64 0, .nilFunc] 114) = wz at *
        try simp only [List.getElem_toArray, List.getElem_cons_zero, List.getElem_cons_succ, Act.put, List.setIfInBounds_toArray, List.set_cons_zero, List.set_cons_succ]
        refine wpAnyH_ready (rs := [11]) (by kernel_rfl) (by simp) (AllReadyH.cons rfl (fun K hK => ?_) AllReadyH.nil)
        obtain ⟨wq, hwq, kq, aq⟩ := bk_write (us := ivV (iv0 0) ++ [.nilFunc]) HK.out rfl (by decide)
        have HI := Lib.hid (HI.out.wrote HF.out.1 HN.out HF.out.2 aq)
        have HK := Lib.hid kq
        unfold wayV
        go_simp
        clear hwq
        refine hK _ _ trivial (fun hS => ?_)
        clear hK K kq aq
        try simp only [List.getElem_toArray, List.getElem_cons_zero, List.getElem_cons_succ, Act.put, List.setIfInBounds_toArray, List.set_cons_zero, List.set_cons_succ]
        refine wpAnyH_ready (rs := [12]) (by kernel_rfl) (by simp) (AllReadyH.cons rfl (fun K hK => ?_) AllReadyH.nil)
        go_simp
        refine hK _ _ trivial (fun hS => ?_)
        clear hK K
        try simp only [List.getElem_toArray, List.getElem_cons_zero, List.getElem_cons_succ, Act.put, List.setIfInBounds_toArray, List.set_cons_zero, List.set_cons_succ]
        refine wpAnyH_done (by kernel_rfl) ?_ _
        have hbad := bad_any HI.out.row
        go_wp2_with fail
        (with_reducible refine hbad.mono ?_)
        rintro _ w9 ⟨rfl, rfl⟩
        exact ⟨rfl, rfl, HI.out.low⟩
      · have HN := Lib.hid (show wz.heap.size ≠ N by have := HI.out.row.ltN; omega)
        have HF := Lib.hid (And.intro HI.out.low.size HI.out.sz)
        have HK := Lib.hid (Bk.new wz 114 [.int .u8 0, .bool false, .int .i64 0, .int .i64 0, .bool false, .int .i64 0, .int .i64 0, .int .i64 0, .nilFunc])
        have HI := Lib.hid (HI.out.alloc (.cells [.int .u8 0, .bool false, .int .i64 0, .int .i64 0, .bool false, .int .i64 0, .int .i64 0, .int .i64 0, .nilFunc].toArray 114))
        go_simp
        refine hK _ _ trivial (fun hS => ?_)
        clear hK K
        generalize wz.alloc (.cells #[.int .u8 0, .bool false, .int .i64 0, .int .i64 0, .bool false, .int .i64 0, .int .i64 0, .int .i64 0, .nilFunc] 114) = wz at *
        try simp only [List.getElem_toArray, List.getElem_cons_zero, List.getElem_cons_succ, Act.put, List.setIfInBounds_toArray, List.set_cons_zero, List.set_cons_succ]
        refine wpAnyH_ready (rs := [6]) (by kernel_rfl) (by simp) (AllReadyH.cons rfl (fun K hK => ?_) AllReadyH.nil)
        have hl := HI.out.ps.ways.look2 wayTy s0 HS0.out zeroWay
        rw [HW.out] at hl
        simp only [Option.map_none, Option.getD_none, Option.isSome_none] at hl
        unfold nmV at hl
        go_simp
        refine hK _ _ trivial (fun hS => ?_)
        clear hK K hl
        try simp only [List.getElem_toArray, List.getElem_cons_zero, List.getElem_cons_succ, Act.put, List.setIfInBounds_toArray, List.set_cons_zero, List.set_cons_succ]
        refine wpAnyH_take (i := 7) (v := ?_) rfl (by kernel_rfl) (by kernel_rfl) (by kernel_rfl) (fun _ _ _ h => h) (Or.inl ⟨by rfl, ?_⟩) hS ?_
        rotate_left 1
        · intro w' hSw
          go_simp <;> with_reducible rfl
        try simp only [List.getElem_toArray, List.getElem_cons_zero, List.getElem_cons_succ, Act.put, List.setIfInBounds_toArray, List.set_cons_zero, List.set_cons_succ]
        refine wpAnyH_take (i := 8) (v := ?_) rfl (by kernel_rfl) (by kernel_rfl) (by kernel_rfl) (fun _ _ _ h => h) (Or.inl ⟨by rfl, ?_⟩) hS ?_
        rotate_left 1
        · intro w' hSw
          go_simp <;> with_reducible rfl
        try simp only [List.getElem_toArray, List.getElem_cons_zero, List.getElem_cons_succ, Act.put, List.setIfInBounds_toArray, List.set_cons_zero, List.set_cons_succ]
        refine wpAnyH_take (i := 9) (v := ?_) rfl (by kernel_rfl) (by kernel_rfl) (by kernel_rfl) (fun _ _ _ h => h) (Or.inl ⟨by rfl, ?_⟩) hS ?_
        rotate_left 1
        · intro w' hSw
          go_simp <;> with_reducible rfl
        try simp only [List.getElem_toArray, List.getElem_cons_zero, List.getElem_cons_succ, Act.put, List.setIfInBounds_toArray, List.set_cons_zero, List.set_cons_succ]
        refine wpAnyH_ready (rs := [11]) (by kernel_rfl) (by simp) (AllReadyH.cons rfl (fun K hK => ?_) AllReadyH.nil)
        obtain ⟨wq, hwq, kq, aq⟩ := bk_write (us := ivV (iv0 0) ++ [.nilFunc]) HK.out rfl (by decide)
        have HI := Lib.hid (HI.out.wrote HF.out.1 HN.out HF.out.2 aq)
        have HK := Lib.hid kq
        unfold wayV
        go_simp
        clear hwq
        refine hK _ _ trivial (fun hS => ?_)
        clear hK K kq aq
        try simp only [List.getElem_toArray, List.getElem_cons_zero, List.getElem_cons_succ, Act.put, List.setIfInBounds_toArray, List.set_cons_zero, List.set_cons_succ]
        refine wpAnyH_ready (rs := [12]) (by kernel_rfl) (by simp) (AllReadyH.cons rfl (fun K hK => ?_) AllReadyH.nil)
        go_simp
        refine hK _ _ trivial (fun hS => ?_)
        clear hK K
        try simp only [List.getElem_toArray, List.getElem_cons_zero, List.getElem_cons_succ, Act.put, List.setIfInBounds_toArray, List.set_cons_zero, List.set_cons_succ]
        refine wpAnyH_done (by kernel_rfl) ?_ _
        have hbad := bad_any HI.out.row
        go_wp2_with fail
        (with_reducible refine hbad.mono ?_)
        rintro _ w9 ⟨rfl, rfl⟩
        exact ⟨rfl, rfl, HI.out.low⟩
    · have HN := Lib.hid (show wz.heap.size ≠ N by have := HI.out.row.ltN; omega)
      have HF := Lib.hid (And.intro HI.out.low.size HI.out.sz)
      have HK := Lib.hid (Bk.new wz 114 [.int .u8 0, .bool false, .int .i64 0, .int .i64 0, .bool false, .int .i64 0, .int .i64 0, .int .i64 0, .nilFunc])
      have HI := Lib.hid (HI.out.alloc (.cells [.int .u8 0, .bool false, .int .i64 0, .int .i64 0, .bool false, .int .i64 0, .int .i64 0, .int .i64 0, .nilFunc].toArray 114))
      go_simp
      refine hK _ _ trivial (fun hS => ?_)
      clear hK K
      generalize wz.alloc (.cells #[.int .u8 0, .bool false, .int .i64 0, .int .i64 0, .bool false, .int .i64 0, .int .i64 0, .int .i64 0, .nilFunc] 114) = wz at *
      try simp only [List.getElem_toArray, List.getElem_cons_zero, List.getElem_cons_succ, Act.put, List.setIfInBounds_toArray, List.set_cons_zero, List.set_cons_succ]
      refine wpAnyH_ready (rs := [5]) (by kernel_rfl) (by simp) (AllReadyH.cons rfl (fun K hK => ?_) AllReadyH.nil)
      go_simp
      (with_reducible refine (take_any HI.out.row HI.out.row.ltN).mono ?_)
      rintro _ wz ⟨rfl, r5, a5⟩
      have HI := Lib.hid (HI.out.took r5 a5)
      first | (have HK := Lib.hid (show Bk wz _ _ _ from (a5.block _ HK.out.lt HN.out).trans HK.out)) | skip
      go_simp
      refine hK _ _ trivial (fun hS => ?_)
      clear hK K
      try simp only [List.getElem_toArray, List.getElem_cons_zero, List.getElem_cons_succ, Act.put, List.setIfInBounds_toArray, List.set_cons_zero, List.set_cons_succ]
      refine wpAnyH_ready (rs := [6]) (by kernel_rfl) (by simp) (AllReadyH.cons rfl (fun K hK => ?_) AllReadyH.nil)
      have hl := HI.out.ps.ways.look2 wayTy s0 HS0.out zeroWay
      rw [HW.out] at hl
      simp only [Option.map_none, Option.getD_none, Option.isSome_none] at hl
      unfold nmV at hl
      go_simp
      refine hK _ _ trivial (fun hS => ?_)
      clear hK K hl
      try simp only [List.getElem_toArray, List.getElem_cons_zero, List.getElem_cons_succ, Act.put, List.setIfInBounds_toArray, List.set_cons_zero, List.set_cons_succ]
      refine wpAnyH_take (i := 7) (v := ?_) rfl (by kernel_rfl) (by kernel_rfl) (by kernel_rfl) (fun _ _ _ h => h) (Or.inl ⟨by rfl, ?_⟩) hS ?_
      rotate_left 1
      · intro w' hSw
        go_simp <;> with_reducible rfl
      try simp only [List.getElem_toArray, List.getElem_cons_zero, List.getElem_cons_succ, Act.put, List.setIfInBounds_toArray, List.set_cons_zero, List.set_cons_succ]
      refine wpAnyH_take (i := 8) (v := ?_) rfl (by kernel_rfl) (by kernel_rfl) (by kernel_rfl) (fun _ _ _ h => h) (Or.inl ⟨by rfl, ?_⟩) hS ?_
      rotate_left 1
      · intro w' hSw
        go_simp <;> with_reducible rfl
      try simp only [List.getElem_toArray, List.getElem_cons_zero, List.getElem_cons_succ, Act.put, List.setIfInBounds_toArray, List.set_cons_zero, List.set_cons_succ]
      refine wpAnyH_take (i := 9) (v := ?_) rfl (by kernel_rfl) (by kernel_rfl) (by kernel_rfl) (fun _ _ _ h => h) (Or.inl ⟨by rfl, ?_⟩) hS ?_
      rotate_left 1
      · intro w' hSw
        go_simp <;> with_reducible rfl
      try simp only [List.getElem_toArray, List.getElem_cons_zero, List.getElem_cons_succ, Act.put, List.setIfInBounds_toArray, List.set_cons_zero, List.set_cons_succ]
      refine wpAnyH_ready (rs := [11]) (by kernel_rfl) (by simp) (AllReadyH.cons rfl (fun K hK => ?_) AllReadyH.nil)
      obtain ⟨wq, hwq, kq, aq⟩ := bk_write (us := ivV (iv0 0) ++ [.nilFunc]) HK.out rfl (by decide)
      have HI := Lib.hid (HI.out.wrote HF.out.1 HN.out HF.out.2 aq)
      have HK := Lib.hid kq
      unfold wayV
      go_simp
      clear hwq
      refine hK _ _ trivial (fun hS => ?_)
      clear hK K kq aq
      try simp only [List.getElem_toArray, List.getElem_cons_zero, List.getElem_cons_succ, Act.put, List.setIfInBounds_toArray, List.set_cons_zero, List.set_cons_succ]
      refine wpAnyH_ready (rs := [12]) (by kernel_rfl) (by simp) (AllReadyH.cons rfl (fun K hK => ?_) AllReadyH.nil)
      go_simp
      refine hK _ _ trivial (fun hS => ?_)
      clear hK K
      try simp only [List.getElem_toArray, List.getElem_cons_zero, List.getElem_cons_succ, Act.put, List.setIfInBounds_toArray, List.set_cons_zero, List.set_cons_succ]
      refine wpAnyH_done (by kernel_rfl) ?_ _
      have hbad := bad_any HI.out.row
      go_wp2_with fail
      (with_reducible refine hbad.mono ?_)
      rintro _ w9 ⟨rfl, rfl⟩
      exact ⟨rfl, rfl, HI.out.low⟩
  · go_simp
    (with_reducible refine (take_any HI.out.row HI.out.row.ltN).mono ?_)
    rintro _ wz ⟨rfl, r5, a5⟩
    have HI := Lib.hid (HI.out.took r5 a5)
    first | (have HK := Lib.hid (show Bk wz _ _ _ from (a5.block _ HK.out.lt HN.out).trans HK.out)) | skip
    go_simp
    refine hK _ _ trivial (fun hS => ?_)
    clear hK K
    try simp only [List.getElem_toArray, List.getElem_cons_zero, List.getElem_cons_succ, Act.put, List.setIfInBounds_toArray, List.set_cons_zero, List.set_cons_succ]
    refine wpAnyH_ready (rs := [3, 10]) (by kernel_rfl) (by simp) (AllReadyH.cons rfl (fun K hK => ?_) (AllReadyH.cons rfl (fun K hK => ?_) AllReadyH.nil))
    · have cw := HI.out.ways
      go_simp
      refine hK _ _ trivial (fun hS => ?_)
      clear hK K cw
      try simp only [List.getElem_toArray, List.getElem_cons_zero, List.getElem_cons_succ, Act.put, List.setIfInBounds_toArray, List.set_cons_zero, List.set_cons_succ]
      refine wpAnyH_ready (rs := [6, 10]) (by kernel_rfl) (by simp) (AllReadyH.cons rfl (fun K hK => ?_) (AllReadyH.cons rfl (fun K hK => ?_) AllReadyH.nil))
      · have hl := HI.out.ps.ways.look2 wayTy s0 HS0.out zeroWay
        rw [HW.out] at hl
        simp only [Option.map_none, Option.getD_none, Option.isSome_none] at hl
        unfold nmV at hl
        go_simp
        refine hK _ _ trivial (fun hS => ?_)
        clear hK K hl
        try simp only [List.getElem_toArray, List.getElem_cons_zero, List.getElem_cons_succ, Act.put, List.setIfInBounds_toArray, List.set_cons_zero, List.set_cons_succ]
        refine wpAnyH_take (i := 7) (v := ?_) rfl (by kernel_rfl) (by kernel_rfl) (by kernel_rfl) (fun _ _ _ h => h) (Or.inl ⟨by rfl, ?_⟩) hS ?_
        rotate_left 1
        · intro w' hSw
          go_simp <;> with_reducible rfl
        try simp only [List.getElem_toArray, List.getElem_cons_zero, List.getElem_cons_succ, Act.put, List.setIfInBounds_toArray, List.set_cons_zero, List.set_cons_succ]
        refine wpAnyH_take (i := 8) (v := ?_) rfl (by kernel_rfl) (by kernel_rfl) (by kernel_rfl) (fun _ _ _ h => h) (Or.inl ⟨by rfl, ?_⟩) hS ?_
        rotate_left 1
        · intro w' hSw
          go_simp <;> with_reducible rfl
        try simp only [List.getElem_toArray, List.getElem_cons_zero, List.getElem_cons_succ, Act.put, List.setIfInBounds_toArray, List.set_cons_zero, List.set_cons_succ]
        refine wpAnyH_take (i := 9) (v := ?_) rfl (by kernel_rfl) (by kernel_rfl) (by kernel_rfl) (fun _ _ _ h => h) (Or.inl ⟨by rfl, ?_⟩) hS ?_
        rotate_left 1
        · intro w' hSw
          go_simp <;> with_reducible rfl
        try simp only [List.getElem_toArray, List.getElem_cons_zero, List.getElem_cons_succ, Act.put, List.setIfInBounds_toArray, List.set_cons_zero, List.set_cons_succ]
        refine wpAnyH_ready (rs := [10]) (by kernel_rfl) (by simp) (AllReadyH.cons rfl (fun K hK => ?_) AllReadyH.nil)
        have HN := Lib.hid (show wz.heap.size ≠ N by have := HI.out.row.ltN; omega)
        have HF := Lib.hid (And.intro HI.out.low.size HI.out.sz)
        have HK := Lib.hid (Bk.new wz 114 [.int .u8 0, .bool false, .int .i64 0, .int .i64 0, .bool false, .int .i64 0, .int .i64 0, .int .i64 0, .nilFunc])
        have HI := Lib.hid (HI.out.alloc (.cells [.int .u8 0, .bool false, .int .i64 0, .int .i64 0, .bool false, .int .i64 0, .int .i64 0, .int .i64 0, .nilFunc].toArray 114))
        go_simp
        refine hK _ _ trivial (fun hS => ?_)
        clear hK K
        generalize wz.alloc (.cells #[.int .u8 0, .bool false, .int .i64 0, .int .i64 0, .bool false, .int .i64 0, .int .i64 0, .int .i64 0, .nilFunc] 114) = wz at *
        try simp only [List.getElem_toArray, List.getElem_cons_zero, List.getElem_cons_succ, Act.put, List.setIfInBounds_toArray, List.set_cons_zero, List.set_cons_succ]
        refine wpAnyH_ready (rs := [11]) (by kernel_rfl) (by simp) (AllReadyH.cons rfl (fun K hK => ?_) AllReadyH.nil)
        obtain ⟨wq, hwq, kq, aq⟩ := bk_write (us := ivV (iv0 0) ++ [.nilFunc]) HK.out rfl (by decide)
        have HI := Lib.hid (HI.out.wrote HF.out.1 HN.out HF.out.2 aq)
        have HK := Lib.hid kq
        unfold wayV
        go_simp
        clear hwq
        refine hK _ _ trivial (fun hS => ?_)
        clear hK K kq aq
        try simp only [List.getElem_toArray, List.getElem_cons_zero, List.getElem_cons_succ, Act.put, List.setIfInBounds_toArray, List.set_cons_zero, List.set_cons_succ]
        refine wpAnyH_ready (rs := [12]) (by kernel_rfl) (by simp) (AllReadyH.cons rfl (fun K hK => ?_) AllReadyH.nil)
        go_simp
        refine hK _ _ trivial (fun hS => ?_)
        clear hK K
        try simp only [List.getElem_toArray, List.getElem_cons_zero, List.getElem_cons_succ, Act.put, List.setIfInBounds_toArray, List.set_cons_zero, List.set_cons_succ]
        refine wpAnyH_done (by kernel_rfl) ?_ _
        have hbad := bad_any HI.out.row
        go_wp2_with fail
        (with_reducible refine hbad.mono ?_)
        rintro _ w9 ⟨rfl, rfl⟩
        exact ⟨rfl, rfl, HI.out.low⟩
      · have HN := Lib.hid (show wz.heap.size ≠ N by have := HI.out.row.ltN; omega)
        have HF := Lib.hid (And.intro HI.out.low.size HI.out.sz)
        have HK := Lib.hid (Bk.new wz 114 [.int .u8 0, .bool false, .int .i64 0, .int .i64 0, .bool false, .int .i64 0, .int .i64 0, .int .i64 0, .nilFunc])
        have HI := Lib.hid (HI.out.alloc (.cells [.int .u8 0, .bool false, .int .i64 0, .int .i64 0, .bool false, .int .i64 0, .int .i64 0, .int .i64 0, .nilFunc].toArray 114))
        go_simp
        refine hK _ _ trivial (fun hS => ?_)
        clear hK K
        generalize wz.alloc (.cells #[.int .u8 0, .bool false, .int .i64 0, .int .i64 0, .bool false, .int .i64 0, .int .i64 0, .int .i64 0, .nilFunc] 114) = wz at *
        try simp only [List.getElem_toArray, List.getElem_cons_zero, List.getElem_cons_succ, Act.put, List.setIfInBounds_toArray, List.set_cons_zero, List.set_cons_succ]
        refine wpAnyH_ready (rs := [6]) (by kernel_rfl) (by simp) (AllReadyH.cons rfl (fun K hK => ?_) AllReadyH.nil)
        have hl := HI.out.ps.ways.look2 wayTy s0 HS0.out zeroWay
        rw [HW.out] at hl
        simp only [Option.map_none, Option.getD_none, Option.isSome_none] at hl
        unfold nmV at hl
        go_simp
        refine hK _ _ trivial (fun hS => ?_)
        clear hK K hl
        try simp only [List.getElem_toArray, List.getElem_cons_zero, List.getElem_cons_succ, Act.put, List.setIfInBounds_toArray, List.set_cons_zero, List.set_cons_succ]
        refine wpAnyH_take (i := 7) (v := ?_) rfl (by kernel_rfl) (by kernel_rfl) (by kernel_rfl) (fun _ _ _ h => h) (Or.inl ⟨by rfl, ?_⟩) hS ?_
        rotate_left 1
        · intro w' hSw
          go_simp <;> with_reducible rfl
        try simp only [List.getElem_toArray, List.getElem_cons_zero, List.getElem_cons_succ, Act.put, List.setIfInBounds_toArray, List.set_cons_zero, List.set_cons_succ]
        refine wpAnyH_take (i := 8) (v := ?_) rfl (by kernel_rfl) (by kernel_rfl) (by kernel_rfl) (fun _ _ _ h => h) (Or.inl ⟨by rfl, ?_⟩) hS ?_
        rotate_left 1
        · intro w' hSw
          go_simp <;> with_reducible rfl
        try simp only [List.getElem_toArray, List.getElem_cons_zero, List.getElem_cons_succ, Act.put, List.setIfInBounds_toArray, List.set_cons_zero, List.set_cons_succ]
        refine wpAnyH_take (i := 9) (v := ?_) rfl (by kernel_rfl) (by kernel_rfl) (by kernel_rfl) (fun _ _ _ h => h) (Or.inl ⟨by rfl, ?_⟩) hS ?_
        rotate_left 1
        · intro w' hSw
          go_simp <;> with_reducible rfl
        try simp only [List.getElem_toArray, List.getElem_cons_zero, List.getElem_cons_succ, Act.put, List.setIfInBounds_toArray, List.set_cons_zero, List.set_cons_succ]
        refine wpAnyH_ready (rs := [11]) (by kernel_rfl) (by simp) (AllReadyH.cons rfl (fun K hK => ?_) AllReadyH.nil)
        obtain ⟨wq, hwq, kq, aq⟩ := bk_write (us := ivV (iv0 0) ++ [.nilFunc]) HK.out rfl (by decide)
        have HI := Lib.hid (HI.out.wrote HF.out.1 HN.out HF.out.2 aq)
        have HK := Lib.hid kq
        unfold wayV
        go_simp
        clear hwq
        refine hK _ _ trivial (fun hS => ?_)
        clear hK K kq aq
        try simp only [List.getElem_toArray, List.getElem_cons_zero, List.getElem_cons_succ, Act.put, List.setIfInBounds_toArray, List.set_cons_zero, List.set_cons_succ]
        refine wpAnyH_ready (rs := [12]) (by kernel_rfl) (by simp) (AllReadyH.cons rfl (fun K hK => ?_) AllReadyH.nil)
        go_simp
        refine hK _ _ trivial (fun hS => ?_)
        clear hK K
        try simp only [List.getElem_toArray, List.getElem_cons_zero, List.getElem_cons_succ, Act.put, List.setIfInBounds_toArray, List.set_cons_zero, List.set_cons_succ]
        refine wpAnyH_done (by kernel_rfl) ?_ _
        have hbad := bad_any HI.out.row
        go_wp2_with fail
        (with_reducible refine hbad.mono ?_)
        rintro _ w9 ⟨rfl, rfl⟩
        exact ⟨rfl, rfl, HI.out.low⟩
    · have HN := Lib.hid (show wz.heap.size ≠ N by have := HI.out.row.ltN; omega)
      have HF := Lib.hid (And.intro HI.out.low.size HI.out.sz)
      have HK := Lib.hid (Bk.new wz 114 [.int .u8 0, .bool false, .int .i64 0, .int .i64 0, .bool false, .int .i64 0, .int .i64 0, .int .i64 0, .nilFunc])
      have HI := Lib.hid (HI.out.alloc (.cells [.int .u8 0, .bool false, .int .i64 0, .int .i64 0, .bool false, .int .i64 0, .int .i64 0, .int .i64 0, .nilFunc].toArray 114))
      go_simp
      refine hK _ _ trivial (fun hS => ?_)
      clear hK K
      generalize wz.alloc (.cells #[.int .u8 0, .bool false, .int .i64 0, .int .i64 0, .bool false, .int .i64 0, .int .i64 0, .int .i64 0, .nilFunc] 114) = wz at *
      try simp only [List.getElem_toArray, List.getElem_cons_zero, List.getElem_cons_succ, Act.put, List.setIfInBounds_toArray, List.set_cons_zero, List.set_cons_succ]
      refine wpAnyH_ready (rs := [3]) (by kernel_rfl) (by simp) (AllReadyH.cons rfl (fun K hK => ?_) AllReadyH.nil)
      have cw := HI.out.ways
      go_simp
      refine hK _ _ trivial (fun hS => ?_)
      clear hK K cw
      try simp only [List.getElem_toArray, List.getElem_cons_zero, List.getElem_cons_succ, Act.put, List.setIfInBounds_toArray, List.set_cons_zero, List.set_cons_succ]
      refine wpAnyH_ready (rs := [6]) (by kernel_rfl) (by simp) (AllReadyH.cons rfl (fun K hK => ?_) AllReadyH.nil)
      have hl := HI.out.ps.ways.look2 wayTy s0 HS0.out zeroWay
      rw [HW.out] at hl
      simp only [Option.map_none, Option.getD_none, Option.isSome_none] at hl
      unfold nmV at hl
      go_simp
      refine hK _ _ trivial (fun hS => ?_)
      clear hK K hl
      try simp only [List.getElem_toArray, List.getElem_cons_zero, List.getElem_cons_succ, Act.put, List.setIfInBounds_toArray, List.set_cons_zero, List.set_cons_succ]
      refine wpAnyH_take (i := 7) (v := ?_) rfl (by kernel_rfl) (by kernel_rfl) (by kernel_rfl) (fun _ _ _ h => h) (Or.inl ⟨by rfl, ?_⟩) hS ?_
      rotate_left 1
      · intro w' hSw
        go_simp <;> with_reducible rfl
      try simp only [List.getElem_toArray, List.getElem_cons_zero, List.getElem_cons_succ, Act.put, List.setIfInBounds_toArray, List.set_cons_zero, List.set_cons_succ]
      refine wpAnyH_take (i := 8) (v := ?_) rfl (by kernel_rfl) (by kernel_rfl) (by kernel_rfl) (fun _ _ _ h => h) (Or.inl ⟨by rfl, ?_⟩) hS ?_
      rotate_left 1
      · intro w' hSw
        go_simp <;> with_reducible rfl
      try simp only [List.getElem_toArray, List.getElem_cons_zero, List.getElem_cons_succ, Act.put, List.setIfInBounds_toArray, List.set_cons_zero, List.set_cons_succ]
      refine wpAnyH_take (i := 9) (v := ?_) rfl (by kernel_rfl) (by kernel_rfl) (by kernel_rfl) (fun _ _ _ h => h) (Or.inl ⟨by rfl, ?_⟩) hS ?_
      rotate_left 1
      · intro w' hSw
        go_simp <;> with_reducible rfl
      try simp only [List.getElem_toArray, List.getElem_cons_zero, List.getElem_cons_succ, Act.put, List.setIfInBounds_toArray, List.set_cons_zero, List.set_cons_succ]
      refine wpAnyH_ready (rs := [11]) (by kernel_rfl) (by simp) (AllReadyH.cons rfl (fun K hK => ?_) AllReadyH.nil)
      obtain ⟨wq, hwq, kq, aq⟩ := bk_write (us := ivV (iv0 0) ++ [.nilFunc]) HK.out rfl (by decide)
      have HI := Lib.hid (HI.out.wrote HF.out.1 HN.out HF.out.2 aq)
      have HK := Lib.hid kq
      unfold wayV
      go_simp
      clear hwq
      refine hK _ _ trivial (fun hS => ?_)
      clear hK K kq aq
      try simp only [List.getElem_toArray, List.getElem_cons_zero, List.getElem_cons_succ, Act.put, List.setIfInBounds_toArray, List.set_cons_zero, List.set_cons_succ]
      refine wpAnyH_ready (rs := [12]) (by kernel_rfl) (by simp) (AllReadyH.cons rfl (fun K hK => ?_) AllReadyH.nil)
      go_simp
      refine hK _ _ trivial (fun hS => ?_)
      clear hK K
      try simp only [List.getElem_toArray, List.getElem_cons_zero, List.getElem_cons_succ, Act.put, List.setIfInBounds_toArray, List.set_cons_zero, List.set_cons_succ]
      refine wpAnyH_done (by kernel_rfl) ?_ _
      have hbad := bad_any HI.out.row
      go_wp2_with fail
      (with_reducible refine hbad.mono ?_)
      rintro _ w9 ⟨rfl, rfl⟩
      exact ⟨rfl, rfl, HI.out.low⟩
  · have HN := Lib.hid (show wz.heap.size ≠ N by have := HI.out.row.ltN; omega)
    have HF := Lib.hid (And.intro HI.out.low.size HI.out.sz)
    have HK := Lib.hid (Bk.new wz 114 [.int .u8 0, .bool false, .int .i64 0, .int .i64 0, .bool false, .int .i64 0, .int .i64 0, .int .i64 0, .nilFunc])
    have HI := Lib.hid (HI.out.alloc (.cells [.int .u8 0, .bool false, .int .i64 0, .int .i64 0, .bool false, .int .i64 0, .int .i64 0, .int .i64 0, .nilFunc].toArray 114))
    go_simp
    refine hK _ _ trivial (fun hS => ?_)
    clear hK K
    generalize wz.alloc (.cells #[.int .u8 0, .bool false, .int .i64 0, .int .i64 0, .bool false, .int .i64 0, .int .i64 0, .int .i64 0, .nilFunc] 114) = wz at *
    try simp only [List.getElem_toArray, List.getElem_cons_zero, List.getElem_cons_succ, Act.put, List.setIfInBounds_toArray, List.set_cons_zero, List.set_cons_succ]
    refine wpAnyH_ready (rs := [3, 5]) (by kernel_rfl) (by simp) (AllReadyH.cons rfl (fun K hK => ?_) (AllReadyH.cons rfl (fun K hK => ?_) AllReadyH.nil))
    · have cw := HI.out.ways
      go_simp
      refine hK _ _ trivial (fun hS => ?_)
      clear hK K cw
      try simp only [List.getElem_toArray, List.getElem_cons_zero, List.getElem_cons_succ, Act.put, List.setIfInBounds_toArray, List.set_cons_zero, List.set_cons_succ]
      refine wpAnyH_ready (rs := [5]) (by kernel_rfl) (by simp) (AllReadyH.cons rfl (fun K hK => ?_) AllReadyH.nil)
      go_simp
      (with_reducible refine (take_any HI.out.row HI.out.row.ltN).mono ?_)
      rintro _ wz ⟨rfl, r5, a5⟩
      have HI := Lib.hid (HI.out.took r5 a5)
      first | (have HK := Lib.hid (show Bk wz _ _ _ from (a5.block _ HK.out.lt HN.out).trans HK.out)) | skip
      go_simp
      refine hK _ _ trivial (fun hS => ?_)
      clear hK K
      try simp only [List.getElem_toArray, List.getElem_cons_zero, List.getElem_cons_succ, Act.put, List.setIfInBounds_toArray, List.set_cons_zero, List.set_cons_succ]
      refine wpAnyH_ready (rs := [6]) (by kernel_rfl) (by simp) (AllReadyH.cons rfl (fun K hK => ?_) AllReadyH.nil)
      have hl := HI.out.ps.ways.look2 wayTy s0 HS0.out zeroWay
      rw [HW.out] at hl
      simp only [Option.map_none, Option.getD_none, Option.isSome_none] at hl
      unfold nmV at hl
      go_simp
      refine hK _ _ trivial (fun hS => ?_)
      clear hK K hl
      try simp only [List.getElem_toArray, List.getElem_cons_zero, List.getElem_cons_succ, Act.put, List.setIfInBounds_toArray, List.set_cons_zero, List.set_cons_succ]
      refine wpAnyH_take (i := 7) (v := ?_) rfl (by kernel_rfl) (by kernel_rfl) (by kernel_rfl) (fun _ _ _ h => h) (Or.inl ⟨by rfl, ?_⟩) hS ?_
      rotate_left 1
      · intro w' hSw
        go_simp <;> with_reducible rfl
      try simp only [List.getElem_toArray, List.getElem_cons_zero, List.getElem_cons_succ, Act.put, List.setIfInBounds_toArray, List.set_cons_zero, List.set_cons_succ]
      refine wpAnyH_take (i := 8) (v := ?_) rfl (by kernel_rfl) (by kernel_rfl) (by kernel_rfl) (fun _ _ _ h => h) (Or.inl ⟨by rfl, ?_⟩) hS ?_
      rotate_left 1
      · intro w' hSw
        go_simp <;> with_reducible rfl
      try simp only [List.getElem_toArray, List.getElem_cons_zero, List.getElem_cons_succ, Act.put, List.setIfInBounds_toArray, List.set_cons_zero, List.set_cons_succ]
      refine wpAnyH_take (i := 9) (v := ?_) rfl (by kernel_rfl) (by kernel_rfl) (by kernel_rfl) (fun _ _ _ h => h) (Or.inl ⟨by rfl, ?_⟩) hS ?_
      rotate_left 1
      · intro w' hSw
        go_simp <;> with_reducible rfl
      try simp only [List.getElem_toArray, List.getElem_cons_zero, List.getElem_cons_succ, Act.put, List.setIfInBounds_toArray, List.set_cons_zero, List.set_cons_succ]
      refine wpAnyH_ready (rs := [11]) (by kernel_rfl) (by simp) (AllReadyH.cons rfl (fun K hK => ?_) AllReadyH.nil)
      obtain ⟨wq, hwq, kq, aq⟩ := bk_write (us := ivV (iv0 0) ++ [.nilFunc]) HK.out rfl (by decide)
      have HI := Lib.hid (HI.out.wrote HF.out.1 HN.out HF.out.2 aq)
      have HK := Lib.hid kq
      unfold wayV
      go_simp
      clear hwq
      refine hK _ _ trivial (fun hS => ?_)
      clear hK K kq aq
      try simp only [List.getElem_toArray, List.getElem_cons_zero, List.getElem_cons_succ, Act.put, List.setIfInBounds_toArray, List.set_cons_zero, List.set_cons_succ]
      refine wpAnyH_ready (rs := [12]) (by kernel_rfl) (by simp) (AllReadyH.cons rfl (fun K hK => ?_) AllReadyH.nil)
      go_simp
      refine hK _ _ trivial (fun hS => ?_)
      clear hK K
      try simp only [List.getElem_toArray, List.getElem_cons_zero, List.getElem_cons_succ, Act.put, List.setIfInBounds_toArray, List.set_cons_zero, List.set_cons_succ]
      refine wpAnyH_done (by kernel_rfl) ?_ _
      have hbad := bad_any HI.out.row
      go_wp2_with fail
      (with_reducible refine hbad.mono ?_)
      rintro _ w9 ⟨rfl, rfl⟩
      exact ⟨rfl, rfl, HI.out.low⟩
    · go_simp
      (with_reducible refine (take_any HI.out.row HI.out.row.ltN).mono ?_)
      rintro _ wz ⟨rfl, r5, a5⟩
      have HI := Lib.hid (HI.out.took r5 a5)
      first | (have HK := Lib.hid (show Bk wz _ _ _ from (a5.block _ HK.out.lt HN.out).trans HK.out)) | skip
      go_simp
      refine hK _ _ trivial (fun hS => ?_)
      clear hK K
      try simp only [List.getElem_toArray, List.getElem_cons_zero, List.getElem_cons_succ, Act.put, List.setIfInBounds_toArray, List.set_cons_zero, List.set_cons_succ]
      refine wpAnyH_ready (rs := [3]) (by kernel_rfl) (by simp) (AllReadyH.cons rfl (fun K hK => ?_) AllReadyH.nil)
      have cw := HI.out.ways
      go_simp
      refine hK _ _ trivial (fun hS => ?_)
      clear hK K cw
      try simp only [List.getElem_toArray, List.getElem_cons_zero, List.getElem_cons_succ, Act.put, List.setIfInBounds_toArray, List.set_cons_zero, List.set_cons_succ]
      refine wpAnyH_ready (rs := [6]) (by kernel_rfl) (by simp) (AllReadyH.cons rfl (fun K hK => ?_) AllReadyH.nil)
      have hl := HI.out.ps.ways.look2 wayTy s0 HS0.out zeroWay
      rw [HW.out] at hl
      simp only [Option.map_none, Option.getD_none, Option.isSome_none] at hl
      unfold nmV at hl
      go_simp
      refine hK _ _ trivial (fun hS => ?_)
      clear hK K hl
      try simp only [List.getElem_toArray, List.getElem_cons_zero, List.getElem_cons_succ, Act.put, List.setIfInBounds_toArray, List.set_cons_zero, List.set_cons_succ]
      refine wpAnyH_take (i := 7) (v := ?_) rfl (by kernel_rfl) (by kernel_rfl) (by kernel_rfl) (fun _ _ _ h => h) (Or.inl ⟨by rfl, ?_⟩) hS ?_
      rotate_left 1
      · intro w' hSw
        go_simp <;> with_reducible rfl
      try simp only [List.getElem_toArray, List.getElem_cons_zero, List.getElem_cons_succ, Act.put, List.setIfInBounds_toArray, List.set_cons_zero, List.set_cons_succ]
      refine wpAnyH_take (i := 8) (v := ?_) rfl (by kernel_rfl) (by kernel_rfl) (by kernel_rfl) (fun _ _ _ h => h) (Or.inl ⟨by rfl, ?_⟩) hS ?_
      rotate_left 1
      · intro w' hSw
        go_simp <;> with_reducible rfl
      try simp only [List.getElem_toArray, List.getElem_cons_zero, List.getElem_cons_succ, Act.put, List.setIfInBounds_toArray, List.set_cons_zero, List.set_cons_succ]
      refine wpAnyH_take (i := 9) (v := ?_) rfl (by kernel_rfl) (by kernel_rfl) (by kernel_rfl) (fun _ _ _ h => h) (Or.inl ⟨by rfl, ?_⟩) hS ?_
      rotate_left 1
      · intro w' hSw
        go_simp <;> with_reducible rfl
      try simp only [List.getElem_toArray, List.getElem_cons_zero, List.getElem_cons_succ, Act.put, List.setIfInBounds_toArray, List.set_cons_zero, List.set_cons_succ]
      refine wpAnyH_ready (rs := [11]) (by kernel_rfl) (by simp) (AllReadyH.cons rfl (fun K hK => ?_) AllReadyH.nil)
      obtain ⟨wq, hwq, kq, aq⟩ := bk_write (us := ivV (iv0 0) ++ [.nilFunc]) HK.out rfl (by decide)
      have HI := Lib.hid (HI.out.wrote HF.out.1 HN.out HF.out.2 aq)
      have HK := Lib.hid kq
      unfold wayV
      go_simp
      clear hwq
      refine hK _ _ trivial (fun hS => ?_)
      clear hK K kq aq
      try simp only [List.getElem_toArray, List.getElem_cons_zero, List.getElem_cons_succ, Act.put, List.setIfInBounds_toArray, List.set_cons_zero, List.set_cons_succ]
      refine wpAnyH_ready (rs := [12]) (by kernel_rfl) (by simp) (AllReadyH.cons rfl (fun K hK => ?_) AllReadyH.nil)
      go_simp
      refine hK _ _ trivial (fun hS => ?_)
      clear hK K
      try simp only [List.getElem_toArray, List.getElem_cons_zero, List.getElem_cons_succ, Act.put, List.setIfInBounds_toArray, List.set_cons_zero, List.set_cons_succ]
      refine wpAnyH_done (by kernel_rfl) ?_ _
      have hbad := bad_any HI.out.row
      go_wp2_with fail
      (with_reducible refine hbad.mono ?_)
      rintro _ w9 ⟨rfl, rfl⟩
      exact ⟨rfl, rfl, HI.out.low⟩
end Go.Proofs.YtjebjninlejoeaaGreatDoor

