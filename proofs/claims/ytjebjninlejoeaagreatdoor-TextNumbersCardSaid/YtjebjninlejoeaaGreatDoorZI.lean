/- text, the walk: an unknown word. text, the walk: a word's method. text, the walk: what a line tells; a line's instruction on its way to its row. text, the walk: jumps land. -/
import Derived.Test.YtjebjninlejoeaaGreatDoorZH
import Derived.Test.YtjebjninlejoeaaGreatDoorZA
namespace Go.Proofs.YtjebjninlejoeaaGreatDoor
open Go.RowKit Go.Maps Go.ChangeMaps
set_option linter.unusedVariables false
set_option linter.unusedSimpArgs false
set_option linter.unusedSectionVars false
set_option maxRecDepth 100000

set_option maxHeartbeats 2000000 in
theorem line_unknown (s : Nm) (hs : s.length ≤ 1000000) (n : Int) {B P Wm M : Nat} {st : PS} {vo vj : Value} (w : World) (hv : Tv B w) (hB : B ≤ w.heap.size) {s0 : Nm} {t : List Nm} (ht : toks s = some (s0 :: t)) (hm : markT (s0 :: t) = none) (hs0 : s0.length ≤ 1000000) {D : Nat} (hp : PsAt w D P Wm M st vo vj) (hw : wayP s0 = none) : Calls Tryz.prog 27 #[.pointer (some ⟨P, 0, none⟩), .string ⟨s.toArray⟩, .int .i64 n] w fun x w' => x = Thrown 120 n ∧ Below w.heap.size w w' := by
  have hS := split_word s hs n P w hv hB ht hm
  have HP := Lib.hid hp
  have HW := Lib.hid hw
  have HS0 := Lib.hid hs0
  clear ht hm hp hw hs0
  go_enter Tryz.func27, Tryz.ntmps27
  go_wp2_with fail
  (with_reducible refine hS.mono ?_)
  rintro _ w1 ⟨N, c, A, rfl, c0, b1, hlo, hrow, hk⟩
  clear hS
  have d1 : decide (((t.length + 1 : Nat) : Int) = 0) = false := decide_eq_false (by omega)
  have d2 : decide ((t.length : Int) + 1 = 0) = false := decide_eq_false (by omega)
  have HI : Hid (LI w D P Wm M N w1.heap.size st vo vj n (s0 :: t) w1) := Lib.hid ⟨b1.out, HP.out.below b1.out, hrow.out.within, hlo.out, fun b hb => (HP.out.lt hb).2, Nat.le_refl _⟩
  go_wp2_with fail
  (with_reducible refine hk.out.mono ?_)
  rintro _ w2 ⟨rfl, rfl⟩
  clear hk
  go_wp2_with fail
  refine wp_region_held_drew (S := fun _ => True) (by kernel_rfl) trivial (fun hS => ?_)
  have HI := Lib.hid HI.out.drew
  clear hrow b1 c0
  generalize w2.drew = wz at *
  refine wpAnyH_norm 13 (Array.replicate 13 false) rfl rfl ?_
  refine wpAnyH_take (i := 0) (v := ?_) rfl (by kernel_rfl) (by kernel_rfl) (by kernel_rfl) (fun _ _ _ h => h) (Or.inl ⟨by rfl, ?_⟩) hS ?_
  rotate_left 1
  · intro w' hSw
    go_simp <;> with_reducible rfl
  try simp only [List.getElem_toArray, List.getElem_cons_zero, List.getElem_cons_succ, Act.put, List.setIfInBounds_toArray, List.set_cons_zero, List.set_cons_succ]
  refine wpAnyH_take (i := 1) (v := ?_) rfl (by kernel_rfl) (by kernel_rfl) (by kernel_rfl) (fun _ _ _ h => h) (Or.inl ⟨by rfl, ?_⟩) hS ?_
  rotate_left 1
  · intro w' hSw
    go_simp <;> with_reducible rfl
  try simp only [List.getElem_toArray, List.getElem_cons_zero, List.getElem_cons_succ, Act.put, List.setIfInBounds_toArray, List.set_cons_zero, List.set_cons_succ]
  refine wpAnyH_take (i := 2) (v := ?_) rfl (by kernel_rfl) (by kernel_rfl) (by kernel_rfl) (fun _ _ _ h => h) (Or.inl ⟨by rfl, ?_⟩) hS ?_
  rotate_left 1
  · intro w' hSw
    go_simp <;> with_reducible rfl
  try simp only [List.getElem_toArray, List.getElem_cons_zero, List.getElem_cons_succ, Act.put, List.setIfInBounds_toArray, List.set_cons_zero, List.set_cons_succ]
  refine wpAnyH_take (i := 4) (v := ?_) rfl (by kernel_rfl) (by kernel_rfl) (by kernel_rfl) (fun _ _ _ h => h) (Or.inl ⟨by rfl, ?_⟩) hS ?_
  rotate_left 1
  · intro w' hSw
    go_simp <;> with_reducible rfl
  try simp only [List.getElem_toArray, List.getElem_cons_zero, List.getElem_cons_succ, Act.put, List.setIfInBounds_toArray, List.set_cons_zero, List.set_cons_succ]
  refine wpAnyH_norm 9 #[true, true, true, false, true, false, false, false, false, false, false, false, false] (by kernel_rfl) (by kernel_rfl) ?_
  refine wpAnyH_ready (rs := [3, 5, 10]) (by kernel_rfl) (by simp) (AllReadyH.cons rfl (fun K hK => ?_) (AllReadyH.cons rfl (fun K hK => ?_) (AllReadyH.cons rfl (fun K hK => ?_) AllReadyH.nil)))
  · have cw := HI.out.ways
    go_simp
    refine hK _ _ trivial (fun hS => ?_)
    clear hK K cw
    try simp only [List.getElem_toArray, List.getElem_cons_zero, List.getElem_cons_succ, Act.put, List.setIfInBounds_toArray, List.set_cons_zero, List.set_cons_succ]
    refine wpAnyH_ready (rs := [5, 10]) (by kernel_rfl) (by simp) (AllReadyH.cons rfl (fun K hK => ?_) (AllReadyH.cons rfl (fun K hK => ?_) AllReadyH.nil))
    · go_simp
      (with_reducible refine (take_any HI.out.row HI.out.row.ltN).mono ?_)
      rintro _ wz ⟨rfl, r5, a5⟩
      have HI := Lib.hid (HI.out.took r5 a5)
      first | (have HK := Lib.hid (show Bk wz _ _ _ from (a5.block _ HK.out.lt HN.out).trans HK.out)) | skip
      go_simp
      refine hK _ _ trivial (fun hS => ?_)
      clear hK K
      try simp only [List.getElem_toArray, List.getElem_cons_zero, List.getElem_cons_succ, Act.put, List.setIfInBounds_toArray, List.set_cons_zero, List.set_cons_succ]
      refine wpAnyH_ready (rs := [6, 10]) (by kernel_rfl) (by simp) (AllReadyH.cons rfl (fun K hK => ?_) (AllReadyH.cons rfl (fun K hK => ?_) AllReadyH.nil))
      · have hl := HI.out.ps.ways.look2 wayTy s0 HS0.out zeroWay
        rw [HW.out] at hl
        simp only [Option.map_none, Option.getD_none, Option.isSome_none] at hl
        unfold nmV at hl
        go_simp
        refine hK _ _ trivial (fun hS => ?_)
        clear hK K hl
        try simp only [List.getElem_toArray, List.getElem_cons_zero, List.getElem_cons_succ, Act.put, List.setIfInBounds_toArray, List.set_cons_zero, List.set_cons_succ]
        refine wpAnyH_take (i := 7) (v := ?_) rfl (by kernel_rfl) (by kernel_rfl) (by kernel_rfl) (fun _ _ _ h => h) (Or.inl ⟨by rfl, ?_⟩) hS ?_
        rotate_left 1
        · intro w' hSw
          go_simp <;> with_reducible rfl
        try simp only [List.getElem_toArray, List.getElem_cons_zero, List.getElem_cons_succ, Act.put, List.setIfInBounds_toArray, List.set_cons_zero, List.set_cons_succ]
        refine wpAnyH_take (i := 8) (v := ?_) rfl (by kernel_rfl) (by kernel_rfl) (by kernel_rfl) (fun _ _ _ h => h) (Or.inl ⟨by rfl, ?_⟩) hS ?_
        rotate_left 1
        · intro w' hSw
          go_simp <;> with_reducible rfl
        try simp only [List.getElem_toArray, List.getElem_cons_zero, List.getElem_cons_succ, Act.put, List.setIfInBounds_toArray, List.set_cons_zero, List.set_cons_succ]
        refine wpAnyH_take (i := 9) (v := ?_) rfl (by kernel_rfl) (by kernel_rfl) (by kernel_rfl) (fun _ _ _ h => h) (Or.inl ⟨by rfl, ?_⟩) hS ?_
        rotate_left 1
        · intro w' hSw
          go_simp <;> with_reducible rfl
        try simp only [List.getElem_toArray, List.getElem_cons_zero, List.getElem_cons_succ, Act.put, List.setIfInBounds_toArray, List.set_cons_zero, List.set_cons_succ]
        refine wpAnyH_ready (rs := [10]) (by kernel_rfl) (by simp) (AllReadyH.cons rfl (fun K hK => ?_) AllReadyH.nil)
        have HN := Lib.hid (show wz.heap.size ≠ N by have := HI.out.row.ltN; omega)
        have HF := Lib.hid (And.intro HI.out.low.size HI.out.sz)
        have HK := Lib.hid (Bk.new wz 114 [.int .u8 0, .bool false, .int .i64 0, .int .i64 0, .bool false, .int .i64 0, .int .i64 0, .int .i64 0, .nilFunc])
        have HI := Lib.hid (HI.out.alloc (.cells [.int .u8 0, .bool false, .int .i64 0, .int .i64 0, .bool false, .int .i64 0, .int .i64 0, .int .i64 0, .nilFunc].toArray 114))
        go_simp
        refine hK _ _ trivial (fun hS => ?_)
        clear hK K
        generalize wz.alloc (.cells #[.int .u8 0, .bool false, .int .i64 0, .int .i64 0, .bool false, .int .i64 0, .int .i64 0, .int .i64 0, .nilFunc] 114) = wz at *
        try simp only [List.getElem_toArray, List.getElem_cons_zero, List.getElem_cons_succ, Act.put, List.setIfInBounds_toArray, List.set_cons_zero, List.set_cons_succ]
        refine wpAnyH_ready (rs := [11]) (by kernel_rfl) (by simp) (AllReadyH.cons rfl (fun K hK => ?_) AllReadyH.nil)
        obtain ⟨wq, hwq, kq, aq⟩ := bk_write (us := ivV (iv0 0) ++ [.nilFunc]) HK.out rfl (by decide)
        have HI := Lib.hid (HI.out.wrote HF.out.1 HN.out HF.out.2 aq)
        have HK := Lib.hid kq
        unfold wayV
        go_simp
        clear hwq
        refine hK _ _ trivial (fun hS => ?_)
        clear hK K kq aq
        try simp only [List.getElem_toArray, List.getElem_cons_zero, List.getElem_cons_succ, Act.put, List.setIfInBounds_toArray, List.set_cons_zero, List.set_cons_succ]
        refine wpAnyH_ready (rs := [12]) (by kernel_rfl) (by simp) (AllReadyH.cons rfl (fun K hK => ?_) AllReadyH.nil)
        go_simp
        refine hK _ _ trivial (fun hS => ?_)
        clear hK K
        try simp only [List.getElem_toArray, List.getElem_cons_zero, List.getElem_cons_succ, Act.put, List.setIfInBounds_toArray, List.set_cons_zero, List.set_cons_succ]
        refine wpAnyH_done (by kernel_rfl) ?_ _
        have hbad := bad_any HI.out.row
        go_wp2_with fail
        (with_reducible refine hbad.mono ?_)
        rintro _ w9 ⟨rfl, rfl⟩
        exact ⟨rfl, rfl, HI.out.low⟩
      · have HN := Lib.hid (show wz.heap.size ≠ N by have := HI.out.row.ltN; omega)
        have HF := Lib.hid (And.intro HI.out.low.size HI.out.sz)
        have HK := Lib.hid (Bk.new wz 114 [.int .u8 0, .bool false, .int .i64 0, .int .i64 0, .bool false, .int .i64 0, .int .i64 0, .int .i64 0, .nilFunc])
        have HI := Lib.hid (HI.out.alloc (.cells [.int .u8 0, .bool false, .int .i64 0, .int .i64 0, .bool false, .int .i64 0, .int .i64 0, .int .i64 0, .nilFunc].toArray 114))
        go_simp
        refine hK _ _ trivial (fun hS => ?_)
        clear hK K
        generalize wz.alloc (.cells #[.int .u8 0, .bool false, .int .i64 0, .int .i64 0, .bool false, .int .i64 0, .int .i64 0, .int .i64 0, .nilFunc] 114) = wz at *
        try simp only [List.getElem_toArray, List.getElem_cons_zero, List.getElem_cons_succ, Act.put, List.setIfInBounds_toArray, List.set_cons_zero, List.set_cons_succ]
        refine wpAnyH_ready (rs := [6]) (by kernel_rfl) (by simp) (AllReadyH.cons rfl (fun K hK => ?_) AllReadyH.nil)
        have hl := HI.out.ps.ways.look2 wayTy s0 HS0.out zeroWay
        rw [HW.out] at hl
        simp only [Option.map_none, Option.getD_none, Option.isSome_none] at hl
        unfold nmV at hl
        go_simp
        refine hK _ _ trivial (fun hS => ?_)
        clear hK K hl
        try simp only [List.getElem_toArray, List.getElem_cons_zero, List.getElem_cons_succ, Act.put, List.setIfInBounds_toArray, List.set_cons_zero, List.set_cons_succ]
        refine wpAnyH_take (i := 7) (v := ?_) rfl (by kernel_rfl) (by kernel_rfl) (by kernel_rfl) (fun _ _ _ h => h) (Or.inl ⟨by rfl, ?_⟩) hS ?_
        rotate_left 1
        · intro w' hSw
          go_simp <;> with_reducible rfl
        try simp only [List.getElem_toArray, List.getElem_cons_zero, List.getElem_cons_succ, Act.put, List.setIfInBounds_toArray, List.set_cons_zero, List.set_cons_succ]
        refine wpAnyH_take (i := 8) (v := ?_) rfl (by kernel_rfl) (by kernel_rfl) (by kernel_rfl) (fun _ _ _ h => h) (Or.inl ⟨by rfl, ?_⟩) hS ?_
        rotate_left 1
        · intro w' hSw
          go_simp <;> with_reducible rfl
        try simp only [List.getElem_toArray, List.getElem_cons_zero, List.getElem_cons_succ, Act.put, List.setIfInBounds_toArray, List.set_cons_zero, List.set_cons_succ]
        refine wpAnyH_take (i := 9) (v := ?_) rfl (by kernel_rfl) (by kernel_rfl) (by kernel_rfl) (fun _ _ _ h => h) (Or.inl ⟨by rfl, ?_⟩) hS ?_
        rotate_left 1
        · intro w' hSw
          go_simp <;> with_reducible rfl
        try simp only [List.getElem_toArray, List.getElem_cons_zero, List.getElem_cons_succ, Act.put, List.setIfInBounds_toArray, List.set_cons_zero, List.set_cons_succ]
        refine wpAnyH_ready (rs := [11]) (by kernel_rfl) (by simp) (AllReadyH.cons rfl (fun K hK => ?_) AllReadyH.nil)
        obtain ⟨wq, hwq, kq, aq⟩ := bk_write (us := ivV (iv0 0) ++ [.nilFunc]) HK.out rfl (by decide)
        have HI := Lib.hid (HI.out.wrote HF.out.1 HN.out HF.out.2 aq)
        have HK := Lib.hid kq
        unfold wayV
        go_simp
        clear hwq
        refine hK _ _ trivial (fun hS => ?_)
        clear hK K kq aq
        try simp only [List.getElem_toArray, List.getElem_cons_zero, List.getElem_cons_succ, Act.put, List.setIfInBounds_toArray, List.set_cons_zero, List.set_cons_succ]
        refine wpAnyH_ready (rs := [12]) (by kernel_rfl) (by simp) (AllReadyH.cons rfl (fun K hK => ?_) AllReadyH.nil)
        go_simp
        refine hK _ _ trivial (fun hS => ?_)
        clear hK K
        try simp only [List.getElem_toArray, List.getElem_cons_zero, List.getElem_cons_succ, Act.put, List.setIfInBounds_toArray, List.set_cons_zero, List.set_cons_succ]
        refine wpAnyH_done (by kernel_rfl) ?_ _
        have hbad := bad_any HI.out.row
        go_wp2_with fail
        (with_reducible refine hbad.mono ?_)
        rintro _ w9 ⟨rfl, rfl⟩
        exact ⟨rfl, rfl, HI.out.low⟩
    · have HN := Lib.hid (show wz.heap.size ≠ N by have := HI.out.row.ltN; omega)
      have HF := Lib.hid (And.intro HI.out.low.size HI.out.sz)
      have HK := Lib.hid (Bk.new wz 114 [.int .u8 0, .bool false, .int .i64 0, .int .i64 0, .bool false, .int .i64 0, .int .i64 0, .int .i64 0, .nilFunc])
      have HI := Lib.hid (HI.out.alloc (.cells [.int .u8 0, .bool false, .int .i64 0, .int .i64 0, .bool false, .int .i64 0, .int .i64 0, .int .i64 0, .nilFunc].toArray 114))
      go_simp
      refine hK _ _ trivial (fun hS => ?_)
      clear hK K
      generalize wz.alloc (.cells #[.int .u8 0, .bool false, .int .i64 0, .int .i64 0, .bool false, .int .i64 0, .int .i64 0, .int .i64 0, .nilFunc] 114) = wz at *
      try simp only [List.getElem_toArray, List.getElem_cons_zero, List.getElem_cons_succ, Act.put, List.setIfInBounds_toArray, List.set_cons_zero, List.set_cons_succ]
      refine wpAnyH_ready (rs := [5]) (by kernel_rfl) (by simp) (AllReadyH.cons rfl (fun K hK => ?_) AllReadyH.nil)
      go_simp
      (with_reducible refine (take_any HI.out.row HI.out.row.ltN).mono ?_)
      rintro _ wz ⟨rfl, r5, a5⟩
      have HI := Lib.hid (HI.out.took r5 a5)
      first | (have HK := Lib.hid (show Bk wz _ _ _ from (a5.block _ HK.out.lt HN.out).trans HK.out)) | skip
      go_simp
      refine hK _ _ trivial (fun hS => ?_)
      clear hK K
      try simp only [List.getElem_toArray, List.getElem_cons_zero, List.getElem_cons_succ, Act.put, List.setIfInBounds_toArray, List.set_cons_zero, List.set_cons_succ]
      refine wpAnyH_ready (rs := [6]) (by kernel_rfl) (by simp) (AllReadyH.cons rfl (fun K hK => ?_) AllReadyH.nil)
      have hl := HI.out.ps.ways.look2 wayTy s0 HS0.out zeroWay
      rw [HW.out] at hl
      simp only [Option.map_none, Option.getD_none, Option.isSome_none] at hl
      unfold nmV at hl
      go_simp
      refine hK _ _ trivial (fun hS => ?_)
      clear hK K hl
      try simp only [List.getElem_toArray, List.getElem_cons_zero, List.getElem_cons_succ, Act.put, List.setIfInBounds_toArray, List.set_cons_zero, List.set_cons_succ]
      refine wpAnyH_take (i := 7) (v := ?_) rfl (by kernel_rfl) (by kernel_rfl) (by kernel_rfl) (fun _ _ _ h => h) (Or.inl ⟨by rfl, ?_⟩) hS ?_
      rotate_left 1
      · intro w' hSw
        go_simp <;> with_reducible rfl
      try simp only [List.getElem_toArray, List.getElem_cons_zero, List.getElem_cons_succ, Act.put, List.setIfInBounds_toArray, List.set_cons_zero, List.set_cons_succ]
      refine wpAnyH_take (i := 8) (v := ?_) rfl (by kernel_rfl) (by kernel_rfl) (by kernel_rfl) (fun _ _ _ h => h) (Or.inl ⟨by rfl, ?_⟩) hS ?_
      rotate_left 1
      · intro w' hSw
        go_simp <;> with_reducible rfl
      try simp only [List.getElem_toArray, List.getElem_cons_zero, List.getElem_cons_succ, Act.put, List.setIfInBounds_toArray, List.set_cons_zero, List.set_cons_succ]
      refine wpAnyH_take (i := 9) (v := ?_) rfl (by kernel_rfl) (by kernel_rfl) (by kernel_rfl) (fun _ _ _ h => h) (Or.inl ⟨by rfl, ?_⟩) hS ?_
      rotate_left 1
      · intro w' hSw
        go_simp <;> with_reducible rfl
      try simp only [List.getElem_toArray, List.getElem_cons_zero, List.getElem_cons_succ, Act.put, List.setIfInBounds_toArray, List.set_cons_zero, List.set_cons_succ]
      refine wpAnyH_ready (rs := [11]) (by kernel_rfl) (by simp) (AllReadyH.cons rfl (fun K hK => ?_) AllReadyH.nil)
      obtain ⟨wq, hwq, kq, aq⟩ := bk_write (us := ivV (iv0 0) ++ [.nilFunc]) HK.out rfl (by decide)
      have HI := Lib.hid (HI.out.wrote HF.out.1 HN.out HF.out.2 aq)
      have HK := Lib.hid kq
      unfold wayV
      go_simp
      clear hwq
      refine hK _ _ trivial (fun hS => ?_)
      clear hK K kq aq
      try simp only [List.getElem_toArray, List.getElem_cons_zero, List.getElem_cons_succ, Act.put, List.setIfInBounds_toArray, List.set_cons_zero, List.set_cons_succ]
      refine wpAnyH_ready (rs := [12]) (by kernel_rfl) (by simp) (AllReadyH.cons rfl (fun K hK => ?_) AllReadyH.nil)
      go_simp
      refine hK _ _ trivial (fun hS => ?_)
      clear hK K
      try simp only [List.getElem_toArray, List.getElem_cons_zero, List.getElem_cons_succ, Act.put, List.setIfInBounds_toArray, List.set_cons_zero, List.set_cons_succ]
      refine wpAnyH_done (by kernel_rfl) ?_ _
      have hbad := bad_any HI.out.row
      go_wp2_with fail
      (with_reducible refine hbad.mono ?_)
      rintro _ w9 ⟨rfl, rfl⟩
      exact ⟨rfl, rfl, HI.out.low⟩
  · go_simp
    (with_reducible refine (take_any HI.out.row HI.out.row.ltN).mono ?_)
    rintro _ wz ⟨rfl, r5, a5⟩
    have HI := Lib.hid (HI.out.took r5 a5)
    first | (have HK := Lib.hid (show Bk wz _ _ _ from (a5.block _ HK.out.lt HN.out).trans HK.out)) | skip
    go_simp
    refine hK _ _ trivial (fun hS => ?_)
    clear hK K
    try simp only [List.getElem_toArray, List.getElem_cons_zero, List.getElem_cons_succ, Act.put, List.setIfInBounds_toArray, List.set_cons_zero, List.set_cons_succ]
    refine wpAnyH_ready (rs := [3, 10]) (by kernel_rfl) (by simp) (AllReadyH.cons rfl (fun K hK => ?_) (AllReadyH.cons rfl (fun K hK => ?_) AllReadyH.nil))
    · have cw := HI.out.ways
      go_simp
      refine hK _ _ trivial (fun hS => ?_)
      clear hK K cw
      try simp only [List.getElem_toArray, List.getElem_cons_zero, List.getElem_cons_succ, Act.put, List.setIfInBounds_toArray, List.set_cons_zero, List.set_cons_succ]
      refine wpAnyH_ready (rs := [6, 10]) (by kernel_rfl) (by simp) (AllReadyH.cons rfl (fun K hK => ?_) (AllReadyH.cons rfl (fun K hK => ?_) AllReadyH.nil))
      · have hl := HI.out.ps.ways.look2 wayTy s0 HS0.out zeroWay
        rw [HW.out] at hl
        simp only [Option.map_none, Option.getD_none, Option.isSome_none] at hl
        unfold nmV at hl
        go_simp
        refine hK _ _ trivial (fun hS => ?_)
        clear hK K hl
        try simp only [List.getElem_toArray, List.getElem_cons_zero, List.getElem_cons_succ, Act.put, List.setIfInBounds_toArray, List.set_cons_zero, List.set_cons_succ]
        refine wpAnyH_take (i := 7) (v := ?_) rfl (by kernel_rfl) (by kernel_rfl) (by kernel_rfl) (fun _ _ _ h => h) (Or.inl ⟨by rfl, ?_⟩) hS ?_
        rotate_left 1
        · intro w' hSw
          go_simp <;> with_reducible rfl
        try simp only [List.getElem_toArray, List.getElem_cons_zero, List.getElem_cons_succ, Act.put, List.setIfInBounds_toArray, List.set_cons_zero, List.set_cons_succ]
        refine wpAnyH_take (i := 8) (v := ?_) rfl (by kernel_rfl) (by kernel_rfl) (by kernel_rfl) (fun _ _ _ h => h) (Or.inl ⟨by rfl, ?_⟩) hS ?_
        rotate_left 1
        · intro w' hSw
          go_simp <;> with_reducible rfl
        try simp only [List.getElem_toArray, List.getElem_cons_zero, List.getElem_cons_succ, Act.put, List.setIfInBounds_toArray, List.set_cons_zero, List.set_cons_succ]
        refine wpAnyH_take (i := 9) (v := ?_) rfl (by kernel_rfl) (by kernel_rfl) (by kernel_rfl) (fun _ _ _ h => h) (Or.inl ⟨by rfl, ?_⟩) hS ?_
        rotate_left 1
        · intro w' hSw
          go_simp <;> with_reducible rfl
        try simp only [List.getElem_toArray, List.getElem_cons_zero, List.getElem_cons_succ, Act.put, List.setIfInBounds_toArray, List.set_cons_zero, List.set_cons_succ]
        refine wpAnyH_ready (rs := [10]) (by kernel_rfl) (by simp) (AllReadyH.cons rfl (fun K hK => ?_) AllReadyH.nil)
        have HN := Lib.hid (show wz.heap.size ≠ N by have := HI.out.row.ltN; omega)
        have HF := Lib.hid (And.intro HI.out.low.size HI.out.sz)
        have HK := Lib.hid (Bk.new wz 114 [.int .u8 0, .bool false, .int .i64 0, .int .i64 0, .bool false, .int .i64 0, .int .i64 0, .int .i64 0, .nilFunc])
        have HI := Lib.hid (HI.out.alloc (.cells [.int .u8 0, .bool false, .int .i64 0, .int .i64 0, .bool false, .int .i64 0, .int .i64 0, .int .i64 0, .nilFunc].toArray 114))
        go_simp
        refine hK _ _ trivial (fun hS => ?_)
        clear hK K
        generalize wz.alloc (.cells #[.int .u8 0, .bool false, .int .i64 0, .int .i64 0, .bool false, .int .i64 0, .int .i64 0, .int .i64 0, .nilFunc] 114) = wz at *
        try simp only [List.getElem_toArray, List.getElem_cons_zero, List.getElem_cons_succ, Act.put, List.setIfInBounds_toArray, List.set_cons_zero, List.set_cons_succ]
        refine wpAnyH_ready (rs := [11]) (by kernel_rfl) (by simp) (AllReadyH.cons rfl (fun K hK => ?_) AllReadyH.nil)
        obtain ⟨wq, hwq, kq, aq⟩ := bk_write (us := ivV (iv0 0) ++ [.nilFunc]) HK.out rfl (by decide)
        have HI := Lib.hid (HI.out.wrote HF.out.1 HN.out HF.out.2 aq)
        have HK := Lib.hid kq
        unfold wayV
        go_simp
        clear hwq
        refine hK _ _ trivial (fun hS => ?_)
        clear hK K kq aq
        try simp only [List.getElem_toArray, List.getElem_cons_zero, List.getElem_cons_succ, Act.put, List.setIfInBounds_toArray, List.set_cons_zero, List.set_cons_succ]
        refine wpAnyH_ready (rs := [12]) (by kernel_rfl) (by simp) (AllReadyH.cons rfl (fun K hK => ?_) AllReadyH.nil)
        go_simp
        refine hK _ _ trivial (fun hS => ?_)
        clear hK K
        try simp only [List.getElem_toArray, List.getElem_cons_zero, List.getElem_cons_succ, Act.put, List.setIfInBounds_toArray, List.set_cons_zero, List.set_cons_succ]
        refine wpAnyH_done (by kernel_rfl) ?_ _
        have hbad := bad_any HI.out.row
        go_wp2_with fail
        (with_reducible refine hbad.mono ?_)
        rintro _ w9 ⟨rfl, rfl⟩
        exact ⟨rfl, rfl, HI.out.low⟩
      · have HN := Lib.hid (show wz.heap.size ≠ N by have := HI.out.row.ltN; omega)
        have HF := Lib.hid (And.intro HI.out.low.size HI.out.sz)
        have HK := Lib.hid (Bk.new wz 114 [.int .u8 0, .bool false, .int .i64 0, .int .i64 0, .bool false, .int .i64 0, .int .i64 0, .int .i64 0, .nilFunc])
        have HI := Lib.hid (HI.out.alloc (.cells [.int .u8 0, .bool false, .int .i64 0, .int .i64 0, .bool false, .int .i64 0, .int .i64 0, .int .i64 0, .nilFunc].toArray 114))
        go_simp
        refine hK _ _ trivial (fun hS => ?_)
        clear hK K
        generalize wz.alloc (.cells #[.int .u8 0, .bool false, .int .i64 0, .int .i64 0, .bool false, .int .i64 0, .int .i64 0, .int .i64 0, .nilFunc] 114) = wz at *
        try simp only [List.getElem_toArray, List.getElem_cons_zero, List.getElem_cons_succ, Act.put, List.setIfInBounds_toArray, List.set_cons_zero, List.set_cons_succ]
        refine wpAnyH_ready (rs := [6]) (by kernel_rfl) (by simp) (AllReadyH.cons rfl (fun K hK => ?_) AllReadyH.nil)
        have hl := HI.out.ps.ways.look2 wayTy s0 HS0.out zeroWay
        rw [HW.out] at hl
        simp only [Option.map_none, Option.getD_none, Option.isSome_none] at hl
        unfold nmV at hl
        go_simp
        refine hK _ _ trivial (fun hS => ?_)
        clear hK K hl
        try simp only [List.getElem_toArray, List.getElem_cons_zero, List.getElem_cons_succ, Act.put, List.setIfInBounds_toArray, List.set_cons_zero, List.set_cons_succ]
        refine wpAnyH_take (i := 7) (v := ?_) rfl (by kernel_rfl) (by kernel_rfl) (by kernel_rfl) (fun _ _ _ h => h) (Or.inl ⟨by rfl, ?_⟩) hS ?_
        rotate_left 1
        · intro w' hSw
          go_simp <;> with_reducible rfl
        try simp only [List.getElem_toArray, List.getElem_cons_zero, List.getElem_cons_succ, Act.put, List.setIfInBounds_toArray, List.set_cons_zero, List.set_cons_succ]
        refine wpAnyH_take (i := 8) (v := ?_) rfl (by kernel_rfl) (by kernel_rfl) (by kernel_rfl) (fun _ _ _ h => h) (Or.inl ⟨by rfl, ?_⟩) hS ?_
        rotate_left 1
        · intro w' hSw
          go_simp <;> with_reducible rfl
        try simp only [List.getElem_toArray, List.getElem_cons_zero, List.getElem_cons_succ, Act.put, List.setIfInBounds_toArray, List.set_cons_zero, List.set_cons_succ]
        refine wpAnyH_take (i := 9) (v := ?_) rfl (by kernel_rfl) (by kernel_rfl) (by kernel_rfl) (fun _ _ _ h => h) (Or.inl ⟨by rfl, ?_⟩) hS ?_
        rotate_left 1
        · intro w' hSw
          go_simp <;> with_reducible rfl
        try simp only [List.getElem_toArray, List.getElem_cons_zero, List.getElem_cons_succ, Act.put, List.setIfInBounds_toArray, List.set_cons_zero, List.set_cons_succ]
        refine wpAnyH_ready (rs := [11]) (by kernel_rfl) (by simp) (AllReadyH.cons rfl (fun K hK => ?_) AllReadyH.nil)
        obtain ⟨wq, hwq, kq, aq⟩ := bk_write (us := ivV (iv0 0) ++ [.nilFunc]) HK.out rfl (by decide)
        have HI := Lib.hid (HI.out.wrote HF.out.1 HN.out HF.out.2 aq)
        have HK := Lib.hid kq
        unfold wayV
        go_simp
        clear hwq
        refine hK _ _ trivial (fun hS => ?_)
        clear hK K kq aq
        try simp only [List.getElem_toArray, List.getElem_cons_zero, List.getElem_cons_succ, Act.put, List.setIfInBounds_toArray, List.set_cons_zero, List.set_cons_succ]
        refine wpAnyH_ready (rs := [12]) (by kernel_rfl) (by simp) (AllReadyH.cons rfl (fun K hK => ?_) AllReadyH.nil)
        go_simp
        refine hK _ _ trivial (fun hS => ?_)
        clear hK K
        try simp only [List.getElem_toArray, List.getElem_cons_zero, List.getElem_cons_succ, Act.put, List.setIfInBounds_toArray, List.set_cons_zero, List.set_cons_succ]
        refine wpAnyH_done (by kernel_rfl) ?_ _
        have hbad := bad_any HI.out.row
        go_wp2_with fail
        (with_reducible refine hbad.mono ?_)
        rintro _ w9 ⟨rfl, rfl⟩
        exact ⟨rfl, rfl, HI.out.low⟩
    · have HN := Lib.hid (show wz.heap.size ≠ N by have := HI.out.row.ltN; omega)
      have HF := Lib.hid (And.intro HI.out.low.size HI.out.sz)
      have HK := Lib.hid (Bk.new wz 114 [.int .u8 0, .bool false, .int .i64 0, .int .i64 0, .bool false, .int .i64 0, .int .i64 0, .int .i64 0, .nilFunc])
      have HI := Lib.hid (HI.out.alloc (.cells [.int .u8 0, .bool false, .int .i64 0, .int .i64 0, .bool false, .int .i64 0, .int .i64 0, .int .i64 0, .nilFunc].toArray 114))
      go_simp
      refine hK _ _ trivial (fun hS => ?_)
      clear hK K
      generalize wz.alloc (.cells #[.int .u8 0, .bool false, .int .i64 0, .int .i64 0, .bool false, .int .i64 0, .int .i64 0, .int .i64 0, .nilFunc] 114) = wz at *
      try simp only [List.getElem_toArray, List.getElem_cons_zero, List.getElem_cons_succ, Act.put, List.setIfInBounds_toArray, List.set_cons_zero, List.set_cons_succ]
      refine wpAnyH_ready (rs := [3]) (by kernel_rfl) (by simp) (AllReadyH.cons rfl (fun K hK => ?_) AllReadyH.nil)
      have cw := HI.out.ways
      go_simp
      refine hK _ _ trivial (fun hS => ?_)
      clear hK K cw
      try simp only [List.getElem_toArray, List.getElem_cons_zero, List.getElem_cons_succ, Act.put, List.setIfInBounds_toArray, List.set_cons_zero, List.set_cons_succ]
      refine wpAnyH_ready (rs := [6]) (by kernel_rfl) (by simp) (AllReadyH.cons rfl (fun K hK => ?_) AllReadyH.nil)
      have hl := HI.out.ps.ways.look2 wayTy s0 HS0.out zeroWay
      rw [HW.out] at hl
      simp only [Option.map_none, Option.getD_none, Option.isSome_none] at hl
      unfold nmV at hl
      go_simp
      refine hK _ _ trivial (fun hS => ?_)
      clear hK K hl
      try simp only [List.getElem_toArray, List.getElem_cons_zero, List.getElem_cons_succ, Act.put, List.setIfInBounds_toArray, List.set_cons_zero, List.set_cons_succ]
      refine wpAnyH_take (i := 7) (v := ?_) rfl (by kernel_rfl) (by kernel_rfl) (by kernel_rfl) (fun _ _ _ h => h) (Or.inl ⟨by rfl, ?_⟩) hS ?_
      rotate_left 1
      · intro w' hSw
        go_simp <;> with_reducible rfl
      try simp only [List.getElem_toArray, List.getElem_cons_zero, List.getElem_cons_succ, Act.put, List.setIfInBounds_toArray, List.set_cons_zero, List.set_cons_succ]
      refine wpAnyH_take (i := 8) (v := ?_) rfl (by kernel_rfl) (by kernel_rfl) (by kernel_rfl) (fun _ _ _ h => h) (Or.inl ⟨by rfl, ?_⟩) hS ?_
      rotate_left 1
      · intro w' hSw
        go_simp <;> with_reducible rfl
      try simp only [List.getElem_toArray, List.getElem_cons_zero, List.getElem_cons_succ, Act.put, List.setIfInBounds_toArray, List.set_cons_zero, List.set_cons_succ]
      refine wpAnyH_take (i := 9) (v := ?_) rfl (by kernel_rfl) (by kernel_rfl) (by kernel_rfl) (fun _ _ _ h => h) (Or.inl ⟨by rfl, ?_⟩) hS ?_
      rotate_left 1
      · intro w' hSw
        go_simp <;> with_reducible rfl
      try simp only [List.getElem_toArray, List.getElem_cons_zero, List.getElem_cons_succ, Act.put, List.setIfInBounds_toArray, List.set_cons_zero, List.set_cons_succ]
      refine wpAnyH_ready (rs := [11]) (by kernel_rfl) (by simp) (AllReadyH.cons rfl (fun K hK => ?_) AllReadyH.nil)
      obtain ⟨wq, hwq, kq, aq⟩ := bk_write (us := ivV (iv0 0) ++ [.nilFunc]) HK.out rfl (by decide)
      have HI := Lib.hid (HI.out.wrote HF.out.1 HN.out HF.out.2 aq)
      have HK := Lib.hid kq
      unfold wayV
      go_simp
      clear hwq
      refine hK _ _ trivial (fun hS => ?_)
      clear hK K kq aq
      try simp only [List.getElem_toArray, List.getElem_cons_zero, List.getElem_cons_succ, Act.put, List.setIfInBounds_toArray, List.set_cons_zero, List.set_cons_succ]
      refine wpAnyH_ready (rs := [12]) (by kernel_rfl) (by simp) (AllReadyH.cons rfl (fun K hK => ?_) AllReadyH.nil)
      go_simp
      refine hK _ _ trivial (fun hS => ?_)
      clear hK K
      try simp only [List.getElem_toArray, List.getElem_cons_zero, List.getElem_cons_succ, Act.put, List.setIfInBounds_toArray, List.set_cons_zero, List.set_cons_succ]
      refine wpAnyH_done (by kernel_rfl) ?_ _
      have hbad := bad_any HI.out.row
      go_wp2_with fail
      (with_reducible refine hbad.mono ?_)
      rintro _ w9 ⟨rfl, rfl⟩
      exact ⟨rfl, rfl, HI.out.low⟩
  · have HN := Lib.hid (show wz.heap.size ≠ N by have := HI.out.row.ltN; omega)
    have HF := Lib.hid (And.intro HI.out.low.size HI.out.sz)
    have HK := Lib.hid (Bk.new wz 114 [.int .u8 0, .bool false, .int .i64 0, .int .i64 0, .bool false, .int .i64 0, .int .i64 0, .int .i64 0, .nilFunc])
    have HI := Lib.hid (HI.out.alloc (.cells [.int .u8 0, .bool false, .int .i64 0, .int .i64 0, .bool false, .int .i64 0, .int .i64 0, .int .i64 0, .nilFunc].toArray 114))
    go_simp
    refine hK _ _ trivial (fun hS => ?_)
    clear hK K
    generalize wz.alloc (.cells #[.int .u8 0, .bool false, .int .i64 0, .int .i64 0, .bool false, .int .i64 0, .int .i64 0, .int .i64 0, .nilFunc] 114) = wz at *
    try simp only [List.getElem_toArray, List.getElem_cons_zero, List.getElem_cons_succ, Act.put, List.setIfInBounds_toArray, List.set_cons_zero, List.set_cons_succ]
    refine wpAnyH_ready (rs := [3, 5]) (by kernel_rfl) (by simp) (AllReadyH.cons rfl (fun K hK => ?_) (AllReadyH.cons rfl (fun K hK => ?_) AllReadyH.nil))
    · have cw := HI.out.ways
      go_simp
      refine hK _ _ trivial (fun hS => ?_)
      clear hK K cw
      try simp only [List.getElem_toArray, List.getElem_cons_zero, List.getElem_cons_succ, Act.put, List.setIfInBounds_toArray, List.set_cons_zero, List.set_cons_succ]
      refine wpAnyH_ready (rs := [5]) (by kernel_rfl) (by simp) (AllReadyH.cons rfl (fun K hK => ?_) AllReadyH.nil)
      go_simp
      (with_reducible refine (take_any HI.out.row HI.out.row.ltN).mono ?_)
      rintro _ wz ⟨rfl, r5, a5⟩
      have HI := Lib.hid (HI.out.took r5 a5)
      first | (have HK := Lib.hid (show Bk wz _ _ _ from (a5.block _ HK.out.lt HN.out).trans HK.out)) | skip
      go_simp
      refine hK _ _ trivial (fun hS => ?_)
      clear hK K
      try simp only [List.getElem_toArray, List.getElem_cons_zero, List.getElem_cons_succ, Act.put, List.setIfInBounds_toArray, List.set_cons_zero, List.set_cons_succ]
      refine wpAnyH_ready (rs := [6]) (by kernel_rfl) (by simp) (AllReadyH.cons rfl (fun K hK => ?_) AllReadyH.nil)
      have hl := HI.out.ps.ways.look2 wayTy s0 HS0.out zeroWay
      rw [HW.out] at hl
      simp only [Option.map_none, Option.getD_none, Option.isSome_none] at hl
      unfold nmV at hl
      go_simp
      refine hK _ _ trivial (fun hS => ?_)
      clear hK K hl
      try simp only [List.getElem_toArray, List.getElem_cons_zero, List.getElem_cons_succ, Act.put, List.setIfInBounds_toArray, List.set_cons_zero, List.set_cons_succ]
      refine wpAnyH_take (i := 7) (v := ?_) rfl (by kernel_rfl) (by kernel_rfl) (by kernel_rfl) (fun _ _ _ h => h) (Or.inl ⟨by rfl, ?_⟩) hS ?_
      rotate_left 1
      · intro w' hSw
        go_simp <;> with_reducible rfl
      try simp only [List.getElem_toArray, List.getElem_cons_zero, List.getElem_cons_succ, Act.put, List.setIfInBounds_toArray, List.set_cons_zero, List.set_cons_succ]
      refine wpAnyH_take (i := 8) (v := ?_) rfl (by kernel_rfl) (by kernel_rfl) (by kernel_rfl) (fun _ _ _ h => h) (Or.inl ⟨by rfl, ?_⟩) hS ?_
      rotate_left 1
      · intro w' hSw
        go_simp <;> with_reducible rfl
      try simp only [List.getElem_toArray, List.getElem_cons_zero, List.getElem_cons_succ, Act.put, List.setIfInBounds_toArray, List.set_cons_zero, List.set_cons_succ]
      refine wpAnyH_take (i := 9) (v := ?_) rfl (by kernel_rfl) (by kernel_rfl) (by kernel_rfl) (fun _ _ _ h => h) (Or.inl ⟨by rfl, ?_⟩) hS ?_
      rotate_left 1
      · intro w' hSw
        go_simp <;> with_reducible rfl
      try simp only [List.getElem_toArray, List.getElem_cons_zero, List.getElem_cons_succ, Act.put, List.setIfInBounds_toArray, List.set_cons_zero, List.set_cons_succ]
      refine wpAnyH_ready (rs := [11]) (by kernel_rfl) (by simp) (AllReadyH.cons rfl (fun K hK => ?_) AllReadyH.nil)
      obtain ⟨wq, hwq, kq, aq⟩ := bk_write (us := ivV (iv0 0) ++ [.nilFunc]) HK.out rfl (by decide)
      have HI := Lib.hid (HI.out.wrote HF.out.1 HN.out HF.out.2 aq)
      have HK := Lib.hid kq
      unfold wayV
      go_simp
      clear hwq
      refine hK _ _ trivial (fun hS => ?_)
      clear hK K kq aq
      try simp only [List.getElem_toArray, List.getElem_cons_zero, List.getElem_cons_succ, Act.put, List.setIfInBounds_toArray, List.set_cons_zero, List.set_cons_succ]
      refine wpAnyH_ready (rs := [12]) (by kernel_rfl) (by simp) (AllReadyH.cons rfl (fun K hK => ?_) AllReadyH.nil)
      go_simp
      refine hK _ _ trivial (fun hS => ?_)
      clear hK K
      try simp only [List.getElem_toArray, List.getElem_cons_zero, List.getElem_cons_succ, Act.put, List.setIfInBounds_toArray, List.set_cons_zero, List.set_cons_succ]
      refine wpAnyH_done (by kernel_rfl) ?_ _
      have hbad := bad_any HI.out.row
      go_wp2_with fail
      (with_reducible refine hbad.mono ?_)
      rintro _ w9 ⟨rfl, rfl⟩
      exact ⟨rfl, rfl, HI.out.low⟩
    · go_simp
      (with_reducible refine (take_any HI.out.row HI.out.row.ltN).mono ?_)
      rintro _ wz ⟨rfl, r5, a5⟩
      have HI := Lib.hid (HI.out.took r5 a5)
      first | (have HK := Lib.hid (show Bk wz _ _ _ from (a5.block _ HK.out.lt HN.out).trans HK.out)) | skip
      go_simp
      refine hK _ _ trivial (fun hS => ?_)
      clear hK K
      try simp only [List.getElem_toArray, List.getElem_cons_zero, List.getElem_cons_succ, Act.put, List.setIfInBounds_toArray, List.set_cons_zero, List.set_cons_succ]
      refine wpAnyH_ready (rs := [3]) (by kernel_rfl) (by simp) (AllReadyH.cons rfl (fun K hK => ?_) AllReadyH.nil)
      have cw := HI.out.ways
      go_simp
      refine hK _ _ trivial (fun hS => ?_)
      clear hK K cw
      try simp only [List.getElem_toArray, List.getElem_cons_zero, List.getElem_cons_succ, Act.put, List.setIfInBounds_toArray, List.set_cons_zero, List.set_cons_succ]
      refine wpAnyH_ready (rs := [6]) (by kernel_rfl) (by simp) (AllReadyH.cons rfl (fun K hK => ?_) AllReadyH.nil)
      have hl := HI.out.ps.ways.look2 wayTy s0 HS0.out zeroWay
      rw [HW.out] at hl
      simp only [Option.map_none, Option.getD_none, Option.isSome_none] at hl
      unfold nmV at hl
      go_simp
      refine hK _ _ trivial (fun hS => ?_)
      clear hK K hl
      try simp only [List.getElem_toArray, List.getElem_cons_zero, List.getElem_cons_succ, Act.put, List.setIfInBounds_toArray, List.set_cons_zero, List.set_cons_succ]
      refine wpAnyH_take (i := 7) (v := ?_) rfl (by kernel_rfl) (by kernel_rfl) (by kernel_rfl) (fun _ _ _ h => h) (Or.inl ⟨by rfl, ?_⟩) hS ?_
      rotate_left 1
      · intro w' hSw
        go_simp <;> with_reducible rfl
      try simp only [List.getElem_toArray, List.getElem_cons_zero, List.getElem_cons_succ, Act.put, List.setIfInBounds_toArray, List.set_cons_zero, List.set_cons_succ]
      refine wpAnyH_take (i := 8) (v := ?_) rfl (by kernel_rfl) (by kernel_rfl) (by kernel_rfl) (fun _ _ _ h => h) (Or.inl ⟨by rfl, ?_⟩) hS ?_
      rotate_left 1
      · intro w' hSw
        go_simp <;> with_reducible rfl
      try simp only [List.getElem_toArray, List.getElem_cons_zero, List.getElem_cons_succ, Act.put, List.setIfInBounds_toArray, List.set_cons_zero, List.set_cons_succ]
      refine wpAnyH_take (i := 9) (v := ?_) rfl (by kernel_rfl) (by kernel_rfl) (by kernel_rfl) (fun _ _ _ h => h) (Or.inl ⟨by rfl, ?_⟩) hS ?_
      rotate_left 1
      · intro w' hSw
        go_simp <;> with_reducible rfl
      try simp only [List.getElem_toArray, List.getElem_cons_zero, List.getElem_cons_succ, Act.put, List.setIfInBounds_toArray, List.set_cons_zero, List.set_cons_succ]
      refine wpAnyH_ready (rs := [11]) (by kernel_rfl) (by simp) (AllReadyH.cons rfl (fun K hK => ?_) AllReadyH.nil)
      obtain ⟨wq, hwq, kq, aq⟩ := bk_write (us := ivV (iv0 0) ++ [.nilFunc]) HK.out rfl (by decide)
      have HI := Lib.hid (HI.out.wrote HF.out.1 HN.out HF.out.2 aq)
      have HK := Lib.hid kq
      unfold wayV
      go_simp
      clear hwq
      refine hK _ _ trivial (fun hS => ?_)
      clear hK K kq aq
      try simp only [List.getElem_toArray, List.getElem_cons_zero, List.getElem_cons_succ, Act.put, List.setIfInBounds_toArray, List.set_cons_zero, List.set_cons_succ]
      refine wpAnyH_ready (rs := [12]) (by kernel_rfl) (by simp) (AllReadyH.cons rfl (fun K hK => ?_) AllReadyH.nil)
      go_simp
      refine hK _ _ trivial (fun hS => ?_)
      clear hK K
      try simp only [List.getElem_toArray, List.getElem_cons_zero, List.getElem_cons_succ, Act.put, List.setIfInBounds_toArray, List.set_cons_zero, List.set_cons_succ]
      refine wpAnyH_done (by kernel_rfl) ?_ _
      have hbad := bad_any HI.out.row
      go_wp2_with fail
      (with_reducible refine hbad.mono ?_)
      rintro _ w9 ⟨rfl, rfl⟩
      exact ⟨rfl, rfl, HI.out.low⟩
end Go.Proofs.YtjebjninlejoeaaGreatDoor
namespace Go.Proofs.YtjebjninlejoeaaGreatDoor
open Go.RowKit Go.Maps Go.ChangeMaps
set_option linter.unusedVariables false
set_option linter.unusedSimpArgs false
set_option linter.unusedSectionVars false
set_option maxRecDepth 100000

theorem rest_any {w : World} {R N : Nat} {K : Nat → Prop} {i : IV} {l : List Nm} {n : Int} {B : Nat} (h : RdAt w R N K i [] l n) (hv : Tv B w) (hB : B ≤ w.heap.size) (hN : B ≤ N) (hR : B ≤ R) (k : Kind) : Calls Tryz.prog (kindF k) #[.pointer (some ⟨R, 0, none⟩)] w fun x w' => RdR R N K n w (restT i l k) (.tuple #[]) x w' := by
  cases k with
  | alu => exact alu_any h hv hN hR
  | neg => exact neg_any h hv hN hR
  | ask => exact ask_any h hv hN hR
  | load => exact load_any h hv hN hR
  | put => exact put_any h hv hN hR
  | far => exact far_any h hv hN hR
  | exit => exact (exit_any R w).mono fun x w' ⟨e1, e2⟩ => by subst e2; exact ⟨e1, h, Ag.refl _ _⟩
end Go.Proofs.YtjebjninlejoeaaGreatDoor
namespace Go.Proofs.YtjebjninlejoeaaGreatDoor
open Go.RowKit Go.Maps Go.ChangeMaps
set_option linter.unusedVariables false
set_option linter.unusedSimpArgs false
set_option linter.unusedSectionVars false
set_option maxRecDepth 100000

/-- Blocks of texts are as they were. -/
def K9 (w w' : World) : Prop := ∀ (b : Nat) (cs : Array Value) (fr : Nat × Nat), w.heap[b]? = some (.cells cs 9 fr) → w'.heap[b]? = w.heap[b]?
theorem K9.refl (w : World) : K9 w w := fun _ _ _ _ => rfl
theorem K9.trans {w w1 w2 : World} (h : K9 w w1) (h2 : K9 w1 w2) : K9 w w2 := fun b cs fr e => by
  have e1 := h b cs fr e
  exact (h2 b cs fr (e1.trans e)).trans e1
theorem blk_lt {w : World} {b : Nat} {o : Obj} (h : w.heap[b]? = some o) : b < w.heap.size := (Array.getElem?_eq_some_iff.1 h).1
theorem K9.of {w w' : World} (h : Below w.heap.size w w') : K9 w w' := fun b _ _ e => h.block b (blk_lt e)
/-- What is below D, and texts, are as they were. -/
structure Lo (D : Nat) (w w' : World) : Prop where
  bl : Below D w w'
  k9 : K9 w w'
theorem Lo.refl (D : Nat) (w : World) : Lo D w w := ⟨Below.refl _ _, K9.refl _⟩
theorem Lo.trans {D : Nat} {w w1 w2 : World} (h : Lo D w w1) (h2 : Lo D w1 w2) : Lo D w w2 := ⟨h.bl.trans h2.bl, h.k9.trans h2.k9⟩
theorem Lo.of {D : Nat} {w w' : World} (h : Below w.heap.size w w') (hD : D ≤ w.heap.size) : Lo D w w' := ⟨h.mono hD, K9.of h⟩
theorem Lo.grown {D : Nat} {w w1 : World} {v : Value} {base size n : Nat} {e : TypeId} {xs : List Value} (ho : w.ownsRow base e size v n xs) (he : e ≠ 9) (hg : w.grownBy w1 v.ownBlock) (hb : D ≤ base) (hD : D ≤ w.heap.size) : Lo D w w1 := by
  refine ⟨(Below.refl D w).grown hg hD (fun g q => Nat.le_trans hb (ho.lt g q).1), fun b cs fr q => hg.block b (blk_lt q) (fun q2 => ?_)⟩
  rcases ho.2 with ⟨rfl, -⟩ | ⟨g', cap, cur, rfl, _, hc, _⟩
  · cases q2
  · cases q2
    rw [hc] at q
    injection q with q
    injection q with _ q
    exact he q
theorem Lo.set {D P : Nat} {w : World} {t : TypeId} {cs : List Value} (h : Bk w P t cs) (ht : t ≠ 9) (hP : D ≤ P) (k : Nat) (u : Value) : Lo D w (w.setCell ⟨P, k, none⟩ u) := by
  refine ⟨(Below.refl D w).setCell hP u, fun b cs fr q => Below.heap_setCell w _ _ b (fun e => ?_)⟩
  have e : b = P := e
  subst e
  have h : w.heap[b]? = _ := h
  rw [h] at q
  injection q with q
  injection q with _ q
  exact ht q
/-- What a line tells: the fault that is thrown, or the parser's new state. -/
def LineR (w : World) (D P Wm M : Nat) (r : Except (Int × Nat) PS) (x : Ending) (w' : World) : Prop :=
  Lo D w w' ∧ match r with
  | .error e => x = Thrown e.1 (e.2 : Nat)
  | .ok st => x = .returned (.tuple #[]) ∧ ∃ vo vj, PsAt w' D P Wm M st vo vj
theorem LineR.err {w w' : World} {D P Wm M : Nat} {r : Except (Int × Nat) PS} {e : Int} {m : Nat} (h : r = .error (e, m)) (hb : Lo D w w') : LineR w D P Wm M r (Thrown e (m : Nat)) w' := by
  subst h
  exact ⟨hb, rfl⟩
theorem LineR.ok {w w' : World} {D P Wm M : Nat} {r : Except (Int × Nat) PS} {st : PS} {vo vj : Value} (h : r = .ok st) (hb : Lo D w w') (hp : PsAt w' D P Wm M st vo vj) : LineR w D P Wm M r (.returned (.tuple #[])) w' := by
  subst h
  exact ⟨hb, rfl, vo, vj, hp⟩
theorem Below.of_grown {D : Nat} {w w1 : World} {row : Option Nat} (h : w.grownBy w1 row) (hr : ∀ g, row = some g → D ≤ g) (hD : D ≤ w.heap.size) : Below D w w1 := (Below.refl D w).grown h hD (fun g e => hr g e)
theorem Below.of_fr {R N D : Nat} {w w1 : World} (h : Ag (Fr R N) w w1) (hR : D ≤ R) (hN : D ≤ N) (hD : D ≤ w.heap.size) : Below D w w1 :=
  ⟨h.os, h.tape, h.output, h.size, fun k hk => h.block k (Nat.lt_of_lt_of_le hk hD) ⟨by omega, by omega⟩⟩
/-- An instruction that has been read, in its reader's block. -/
structure LJ (w : World) (D P Wm M R N : Nat) (st : PS) (vo vj : Value) (i : IV) (lb : Nm) (W : World) : Prop where
  low : Lo D w W
  ps : PsAt W D P Wm M st vo vj
  rd : Bk W R 126 (rdV N i lb)
section
variable {w W W' : World} {D P Wm M R N : Nat} {st : PS} {vo vj : Value} {i : IV} {lb : Nm} (h : LJ w D P Wm M R N st vo vj i lb W)
include h
theorem LJ.size : D ≤ W.heap.size := Nat.le_trans h.ps.lo.1 (Nat.le_of_lt h.ps.bk.lt)
theorem LJ.below (hb : Below W.heap.size W W') : LJ w D P Wm M R N st vo vj i lb W' :=
  ⟨h.low.trans (Lo.of hb h.size), h.ps.below hb, h.rd.below hb h.rd.lt⟩
theorem LJ.drew : LJ w D P Wm M R N st vo vj i lb W.drew := h.below (Below.drew (Below.refl _ W))
theorem LJ.alloc (o : Obj) : LJ w D P Wm M R N st vo vj i lb (W.alloc o) := h.below ((Below.refl _ W).alloc (Nat.le_refl _) o)
theorem LJ.neP : P ≠ R := by
  rintro rfl
  have h1 : W.heap[P]? = _ := h.ps.bk
  have h2 : W.heap[P]? = _ := h.rd
  rw [h1] at h2
  injection h2 with h2
  injection h2 with _ h2
  exact absurd h2 (by decide)
theorem LJ.cells : W.cell? ⟨R, 1, none⟩ = some (.int .u8 i.op) ∧ W.cell? ⟨R, 2, none⟩ = some (.bool i.narrow) ∧ W.cell? ⟨R, 3, none⟩ = some (.int .i64 i.dst) ∧ W.cell? ⟨R, 4, none⟩ = some (.int .i64 i.src) ∧ W.cell? ⟨R, 5, none⟩ = some (.bool i.useImm) ∧ W.cell? ⟨R, 6, none⟩ = some (.int .i64 i.off) ∧ W.cell? ⟨R, 7, none⟩ = some (.int .i64 i.imm) ∧ W.cell? ⟨R, 8, none⟩ = some (.int .i64 i.size) ∧ W.cell? ⟨R, 9, none⟩ = some (.string ⟨lb.toArray⟩) :=
  ⟨h.rd.cell 1, h.rd.cell 2, h.rd.cell 3, h.rd.cell 4, h.rd.cell 5, h.rd.cell 6, h.rd.cell 7, h.rd.cell 8, h.rd.cell 9⟩
/-- A jump is appended. -/
theorem LJ.jumped {vj' : Value} (j : Jmp) (ho : W'.ownsRow D 129 3 vj' (st.jumps.length + 1) (jmC st.jumps ++ [.int .i64 j.at_, .int .i64 j.line, .string ⟨j.to.toArray⟩])) (hg : W.grownBy W' vj.ownBlock) : LJ w D P Wm M R N { st with jumps := st.jumps ++ [j] } vo vj' i lb (W'.setCell ⟨P, 3, none⟩ vj') := by
  have e1 := h.ps.jumped j ho hg
  have r1 : Bk W' R 126 (rdV N i lb) := (hg.block R h.rd.lt (fun e => own_ne_bk h.ps.jumps e.symm h.rd (by decide) rfl)).trans h.rd
  have hb1 : Bk W' P 58 [vo, .map (some Wm), .map (some M), vj] := (hg.block P h.ps.bk.lt (fun e => (h.ps.nj P e.symm).1 rfl)).trans h.ps.bk
  refine ⟨(h.low.trans (Lo.grown h.ps.jumps (by decide) hg (Nat.le_refl _) h.size)).trans (Lo.set hb1 (by decide) h.ps.lo.1 _ _), e1, ?_⟩
  exact (Below.heap_setCell W' _ _ R (fun e => h.neP e.symm)).trans r1
/-- An instruction is appended. -/
theorem LJ.outed {vo' : Value} (ho : W'.ownsRow D 40 8 vo' (st.out.length + 1) (outC st.out ++ ivV i)) (hg : W.grownBy W' vo.ownBlock) : Lo D w (W'.setCell ⟨P, 0, none⟩ vo') ∧ PsAt (W'.setCell ⟨P, 0, none⟩ vo') D P Wm M { st with out := st.out ++ [i] } vo' vj := by
  have hb1 : Bk W' P 58 [vo, .map (some Wm), .map (some M), vj] := (hg.block P h.ps.bk.lt (fun e => (h.ps.no P e.symm).1 rfl)).trans h.ps.bk
  exact ⟨(h.low.trans (Lo.grown h.ps.out (by decide) hg (Nat.le_refl _) h.size)).trans (Lo.set hb1 (by decide) h.ps.lo.1 _ _), h.ps.outed i ho hg⟩
end
/-- A line whose method has been walked. -/
theorem LI.read {w W W' : World} {D P Wm M N Q R : Nat} {st : PS} {vo vj : Value} {n : Int} {l t : List Nm} {i : IV} {lb : Nm} (h : LI w D P Wm M N Q st vo vj n l W) (hr : RdAt W' R N (fun b => N < b ∧ b < Q) i lb t n) (ha : Ag (Fr R N) W W') (hR : w.heap.size ≤ R) : LJ w D P Wm M R N st vo vj i lb W' := by
  have h1 : Below w.heap.size w W' := h.low.trans (Below.of_fr ha hR h.lo h.low.size)
  have hD : D ≤ w.heap.size := Nat.le_trans h.ps.lo.1 (Nat.le_of_lt (h.own P (.inl rfl)))
  exact ⟨Lo.of h1 hD, h.ps.keep fun b hb ho => ha.block b hb ⟨by have := h.own b ho; have := h.lo; omega, by have := h.own b ho; omega⟩, hr.bk⟩
end Go.Proofs.YtjebjninlejoeaaGreatDoor
namespace Go.Proofs.YtjebjninlejoeaaGreatDoor
open Go.RowKit Go.Maps Go.ChangeMaps
set_option linter.unusedVariables false
set_option linter.unusedSimpArgs false
set_option linter.unusedSectionVars false
set_option maxRecDepth 100000

theorem own_form {w : World} {base size n : Nat} {e : TypeId} {v : Value} {xs : List Value} (h : w.ownsRow base e size v n xs) (hn : 0 < n) : ∃ g cap, v = .slice (some ⟨g, 0, none⟩) n cap := by
  rcases h.2 with ⟨rfl, h0⟩ | ⟨g, cap, cur, hv, _⟩
  · omega
  · exact ⟨g, cap, hv⟩
theorem own_slice {w : World} {base size n : Nat} {e : TypeId} {v : Value} {xs : List Value} (h : w.ownsRow base e size v n xs) : ∃ A cap, v = .slice A n cap := by
  rcases h.2 with ⟨rfl, h0⟩ | ⟨g, cap, cur, hv, _⟩
  · subst h0; exact ⟨_, _, rfl⟩
  · exact ⟨_, cap, hv⟩
def offI (o : Int) (i : IV) : IV := { i with off := o }
theorem outC_modify (o : Int) : ∀ (l : List IV) (k : Nat), outC (l.modify k (offI o)) = (outC l).set (k * 8 + 5) (.int .i64 o)
  | [], k => by cases k <;> simp [outC]
  | i :: l, 0 => by simp [outC, ivV, offI]
  | i :: l, k + 1 => by
    have ih := outC_modify o l k
    simp only [List.modify_succ_cons]
    rw [show outC (i :: l.modify k (offI o)) = ivV i ++ outC (l.modify k (offI o)) from rfl, show outC (i :: l) = ivV i ++ outC l from rfl, ih, List.set_append_right _ _ (by simp [ivV]; omega)]
    congr 2
    simp [ivV]; omega
theorem PsAt.turned {w : World} {B P Wm M g cap : Nat} {st : PS} {vj : Value} (h : PsAt w B P Wm M st (.slice (some ⟨g, 0, none⟩) st.out.length cap) vj) (k : Nat) (o : Int) : PsAt (w.setCell ⟨g, k * 8 + 5, none⟩ (.int .i64 o)) B P Wm M { st with out := st.out.modify k (offI o) } (.slice (some ⟨g, 0, none⟩) st.out.length cap) vj := by
  have hg : (Value.slice (some ⟨g, 0, none⟩) st.out.length cap).ownBlock = some g := rfl
  obtain ⟨n1, n2, n3, n4⟩ := h.no g hg
  have e := (h.out.stored (k * 8 + 5) (.int .i64 o)).1
  rw [← outC_modify] at e
  refine ⟨(Below.heap_setCell w _ _ P (fun q => n1 q.symm)).trans h.bk, ?_, own_keep h.jumps fun b hb => Below.heap_setCell w _ _ b (fun q => n4 (by have q : b = g := q; rw [← q]; exact hb)), h.ways.keep (Below.heap_setCell w _ _ Wm (fun q => n2 q.symm)), h.marks.keep (Below.heap_setCell w _ _ M (fun q => n3 q.symm)), h.lo, h.ne, h.no, h.nj⟩
  rw [show ({ st with out := st.out.modify k (offI o) } : PS).out = st.out.modify k (offI o) from rfl, List.length_modify]
  exact e
end Go.Proofs.YtjebjninlejoeaaGreatDoor
