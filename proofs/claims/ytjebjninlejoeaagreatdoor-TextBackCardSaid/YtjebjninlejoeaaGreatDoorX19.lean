/- text, the walk: an instruction's line. -/
import Derived.Test.YtjebjninlejoeaaGreatDoorX18
namespace Go.Proofs.YtjebjninlejoeaaGreatDoor
open Go.RowKit Go.Maps Go.ChangeMaps
set_option linter.unusedVariables false
set_option linter.unusedSimpArgs false
set_option linter.unusedSectionVars false
set_option maxRecDepth 100000

section
variable (op : Int) (nr : Bool) (d s : Int) (u : Bool) (o m z : Int) (hi : IvOk ⟨op, nr, d, s, u, o, m, z⟩) {B : Nat} (w : World) (hv : Tv B w) (hB : B ≤ w.heap.size)
include hi hv hB
set_option maxHeartbeats 2000000 in
theorem show_alu (h : 1 ≤ op ∧ op ≤ 12) : Calls Tryz.prog 36 #[.agg #[.int .u8 op, .bool nr, .int .i64 d, .int .i64 s, .bool u, .int .i64 o, .int .i64 m, .int .i64 z]] w fun e w' => e = .returned (.string ⟨(showI ⟨op, nr, d, s, u, o, m, z⟩).toArray⟩) ∧ Below w.heap.size w w' := by
  have n1 := (Below.refl w.heap.size w).alloc (Nat.le_refl _) (.cells #[.int .u8 op, .bool nr, .int .i64 d, .int .i64 s, .bool u, .int .i64 o, .int .i64 m, .int .i64 z] 40)
  have hx : Bk (w.alloc (.cells #[.int .u8 op, .bool nr, .int .i64 d, .int .i64 s, .bool u, .int .i64 o, .int .i64 m, .int .i64 z] 40)) w.heap.size 40 [.int .u8 op, .bool nr, .int .i64 d, .int .i64 s, .bool u, .int .i64 o, .int .i64 m, .int .i64 z] := Bk.new w _ _
  have hv1 := hv.below n1 hB
  have hit := itoa_any z hi.z.1 hi.z.2 _ hv1
  have hF : showI ⟨op, nr, d, s, u, o, m, z⟩ = firstS ⟨op, nr, d, s, u, o, m, z⟩ ++ 32 :: (regN d ++ 44 :: 32 :: (lastS ⟨op, nr, d, s, u, o, m, z⟩ ++ [])) := by
    unfold showI
    simp only [show op ≠ 28 by omega, show op ≠ 16 by omega, show op ≠ 14 by omega, show op ≠ 15 by omega, show op ≠ 13 by omega, show ¬ 17 ≤ op by omega, if_false, if_true]
  rw [hF]
  have lf := first_len ⟨op, nr, d, s, u, o, m, z⟩
  have lr : (regN d).length ≤ 22 := regN_len hi.d
  have ll : (lastS ⟨op, nr, d, s, u, o, m, z⟩).length ≤ 22 := by
    have a1 : (regN s).length ≤ 22 := regN_len hi.s
    have a2 : (Lib.itoa m).length ≤ 21 := Lib.itoa_length_le m hi.m.1 hi.m.2
    unfold lastS
    split <;> simp only <;> omega
  have lap : (apartS o []).length ≤ 22 := apart_len2 hi.o []
  have hfi := fun (W : World) (hW : Tv B W) (hWB : B ≤ W.heap.size) => first_any ⟨op, nr, d, s, u, o, m, z⟩ (.inl (by simp only; omega)) W hW hWB
  have hnm := fun (W : World) (hW : Tv B W) => name_any d hi.d W hW
  have hla := fun (W : World) (hW : Tv B W) (hWB : B ≤ W.heap.size) => last_any ⟨op, nr, d, s, u, o, m, z⟩ hi.m hi.s W hW hWB
  have hap := fun (W : World) (hW : Tv B W) => apart_any o hi.o [] (by decide) W hW
  clear hF
  unfold ivV at hfi hla
  generalize firstS ⟨op, nr, d, s, u, o, m, z⟩ = fi at *
  generalize lastS ⟨op, nr, d, s, u, o, m, z⟩ = la at *
  generalize apartS o [] = ap at *
  generalize regN d = rg at *
  have g1 : ¬ 9223372036854775807 < fi.length + 1 := by omega
  have g2 : ¬ 9223372036854775807 < fi.length + 1 + rg.length := by omega
  have g3 : ¬ 9223372036854775807 < fi.length + 1 + rg.length + 2 := by omega
  have g4 : ¬ 9223372036854775807 < fi.length + 1 + rg.length + 2 + la.length := by omega
  have g5 : ¬ 9223372036854775807 < 2 + ap.length := by omega
  have g6 : ¬ 9223372036854775807 < fi.length + 1 + rg.length + 2 + la.length + (2 + ap.length) := by omega
  have H := Lib.hid h
  clear h
  have d28 : decide (op = 28) = false := decide_eq_false (by have := H.out; omega)
  have e28 : (op == 28) = false := by have := H.out; simp; omega
  have d16 : decide (op = 16) = false := decide_eq_false (by have := H.out; omega)
  have e16 : (op == 16) = false := by have := H.out; simp; omega
  have d14 : decide (op = 14) = false := decide_eq_false (by have := H.out; omega)
  have e14 : (op == 14) = false := by have := H.out; simp; omega
  have d15 : decide (op = 15) = false := decide_eq_false (by have := H.out; omega)
  have e15 : (op == 15) = false := by have := H.out; simp; omega
  have d13 : decide (op = 13) = false := decide_eq_false (by have := H.out; omega)
  have e13 : (op == 13) = false := by have := H.out; simp; omega
  have d17 : decide ((17 : Int) ≤ op) = false := decide_eq_false (by have := H.out; omega)
  go_enter Tryz.func36, Tryz.ntmps36
  go_wp2_with fail
  (with_reducible refine hit.mono ?_)
  rintro _ w1 ⟨rfl, b1⟩
  have hx1 := hx.below b1 hx.lt
  have hbw := n1.trans (b1.mono n1.size)
  have hv2 := hv.below hbw hB
  obtain ⟨c0, c1, c2, c3, c4, c5, c6, c7⟩ := sb_of hx1
  clear hit hx b1 n1
  go_wp2_with fail
  have hdr := (Below.refl w1.heap.size w1).drew
  refine wp_region_held_drew (S := fun W => W.cell? ⟨w.heap.size, 0, none⟩ = some (.int .u8 op) ∧ W.cell? ⟨w.heap.size, 1, none⟩ = some (.bool nr) ∧ W.cell? ⟨w.heap.size, 2, none⟩ = some (.int .i64 d) ∧ W.cell? ⟨w.heap.size, 3, none⟩ = some (.int .i64 s) ∧ W.cell? ⟨w.heap.size, 4, none⟩ = some (.bool u) ∧ W.cell? ⟨w.heap.size, 5, none⟩ = some (.int .i64 o) ∧ W.cell? ⟨w.heap.size, 6, none⟩ = some (.int .i64 m) ∧ W.cell? ⟨w.heap.size, 7, none⟩ = some (.int .i64 z)) (by kernel_rfl) (sb_of (hx1.below hdr hx1.lt)) (fun hS => ?_)
  have hx5 := Bk.drew hx1
  have hb5 := hbw.drew
  have hv5 := hv.below hb5 hB
  refine wpAnyH_take (i := 0) (v := ?_) rfl (by kernel_rfl) (by kernel_rfl) (by kernel_rfl) (fun _ _ _ h => h) (Or.inl ⟨by rfl, ?_⟩) hS ?_
  rotate_left 1
  · intro w' hSw
    go_simp <;> with_reducible rfl
  try simp only [List.getElem_toArray, List.getElem_cons_zero, List.getElem_cons_succ, Act.put, List.setIfInBounds_toArray, List.set_cons_zero, List.set_cons_succ]
  refine wpAnyH_take (i := 3) (v := ?_) rfl (by kernel_rfl) (by kernel_rfl) (by kernel_rfl) (fun _ _ _ h => h) (Or.inl ⟨by rfl, ?_⟩) hS ?_
  rotate_left 1
  · intro w' hSw
    go_simp <;> with_reducible rfl
  try simp only [List.getElem_toArray, List.getElem_cons_zero, List.getElem_cons_succ, Act.put, List.setIfInBounds_toArray, List.set_cons_zero, List.set_cons_succ]
  refine wpAnyH_take (i := 4) (v := ?_) rfl (by kernel_rfl) (by kernel_rfl) (by kernel_rfl) (fun _ _ _ h => h) (Or.inl ⟨by rfl, ?_⟩) hS ?_
  rotate_left 1
  · intro w' hSw
    go_simp <;> with_reducible rfl
  try simp only [List.getElem_toArray, List.getElem_cons_zero, List.getElem_cons_succ, Act.put, List.setIfInBounds_toArray, List.set_cons_zero, List.set_cons_succ]
  refine wpAnyH_take (i := 8) (v := ?_) rfl (by kernel_rfl) (by kernel_rfl) (by kernel_rfl) (fun _ _ _ h => h) (Or.inl ⟨by rfl, ?_⟩) hS ?_
  rotate_left 1
  · intro w' hSw
    go_simp <;> with_reducible rfl
  try simp only [List.getElem_toArray, List.getElem_cons_zero, List.getElem_cons_succ, Act.put, List.setIfInBounds_toArray, List.set_cons_zero, List.set_cons_succ]
  refine wpAnyH_ready (rs := [1]) (by kernel_rfl) (by simp) (AllReadyH.cons rfl (fun K hK => ?_) AllReadyH.nil)
  go_simp
  (with_reducible refine (hfi _ hv5 (Nat.le_trans hB hb5.size)).mono ?_)
  rintro _ w6 ⟨rfl, y6⟩
  have hx6 := hx5.below y6 hx5.lt
  have hb6 := hb5.trans (y6.mono hb5.size)
  have hv6 := hv.below hb6 hB
  go_simp
  refine hK _ _ (sb_of hx6) (fun hS => ?_)
  clear hK K y6
  try simp only [List.getElem_toArray, List.getElem_cons_zero, List.getElem_cons_succ, Act.put, List.setIfInBounds_toArray, List.set_cons_zero, List.set_cons_succ]
  refine wpAnyH_take (i := 2) (v := ?_) rfl (by kernel_rfl) (by kernel_rfl) (by kernel_rfl) (fun _ _ _ h => h) (Or.inl ⟨by rfl, ?_⟩) hS ?_
  rotate_left 1
  · intro w' hSw
    go_simp <;> with_reducible rfl
  try simp only [List.getElem_toArray, List.getElem_cons_zero, List.getElem_cons_succ, Act.put, List.setIfInBounds_toArray, List.set_cons_zero, List.set_cons_succ]
  refine wpAnyH_ready (rs := [5]) (by kernel_rfl) (by simp) (AllReadyH.cons rfl (fun K hK => ?_) AllReadyH.nil)
  go_simp
  (with_reducible refine (hnm _ hv6).mono ?_)
  rintro _ w7 ⟨rfl, y7⟩
  have hx7 := hx6.below y7 hx6.lt
  have hb7 := hb6.trans (y7.mono hb6.size)
  have hv7 := hv.below hb7 hB
  go_simp
  refine hK _ _ (sb_of hx7) (fun hS => ?_)
  clear hK K y7
  try simp only [List.getElem_toArray, List.getElem_cons_zero, List.getElem_cons_succ, Act.put, List.setIfInBounds_toArray, List.set_cons_zero, List.set_cons_succ]
  refine wpAnyH_take (i := 6) (v := ?_) rfl (by kernel_rfl) (by kernel_rfl) (by kernel_rfl) (fun _ _ _ h => h) (Or.inl ⟨by rfl, ?_⟩) hS ?_
  rotate_left 1
  · intro w' hSw
    go_simp <;> with_reducible rfl
  try simp only [List.getElem_toArray, List.getElem_cons_zero, List.getElem_cons_succ, Act.put, List.setIfInBounds_toArray, List.set_cons_zero, List.set_cons_succ]
  refine wpAnyH_take (i := 7) (v := ?_) rfl (by kernel_rfl) (by kernel_rfl) (by kernel_rfl) (fun _ _ _ h => h) (Or.inl ⟨by rfl, ?_⟩) hS ?_
  rotate_left 1
  · intro w' hSw
    go_simp <;> with_reducible rfl
  try simp only [List.getElem_toArray, List.getElem_cons_zero, List.getElem_cons_succ, Act.put, List.setIfInBounds_toArray, List.set_cons_zero, List.set_cons_succ]
  refine wpAnyH_ready (rs := [9]) (by kernel_rfl) (by simp) (AllReadyH.cons rfl (fun K hK => ?_) AllReadyH.nil)
  go_simp
  (with_reducible refine (hla _ hv7 (Nat.le_trans hB hb7.size)).mono ?_)
  rintro _ w8 ⟨rfl, y8⟩
  have hx8 := hx7.below y8 hx7.lt
  have hb8 := hb7.trans (y8.mono hb7.size)
  have hv8 := hv.below hb8 hB
  go_simp
  refine hK _ _ (sb_of hx8) (fun hS => ?_)
  clear hK K y8
  try simp only [List.getElem_toArray, List.getElem_cons_zero, List.getElem_cons_succ, Act.put, List.setIfInBounds_toArray, List.set_cons_zero, List.set_cons_succ]
  refine wpAnyH_take (i := 10) (v := ?_) rfl (by kernel_rfl) (by kernel_rfl) (by kernel_rfl) (fun _ _ _ h => h) (Or.inl ⟨by rfl, ?_⟩) hS ?_
  rotate_left 1
  · intro w' hSw
    go_simp <;> with_reducible rfl
  try simp only [List.getElem_toArray, List.getElem_cons_zero, List.getElem_cons_succ, Act.put, List.setIfInBounds_toArray, List.set_cons_zero, List.set_cons_succ]
  refine wpAnyH_take (i := 11) (v := ?_) rfl (by kernel_rfl) (by kernel_rfl) (by kernel_rfl) (fun _ _ _ h => h) (Or.inl ⟨by rfl, ?_⟩) hS ?_
  rotate_left 1
  · intro w' hSw
    go_simp <;> with_reducible rfl
  try simp only [List.getElem_toArray, List.getElem_cons_zero, List.getElem_cons_succ, Act.put, List.setIfInBounds_toArray, List.set_cons_zero, List.set_cons_succ]
  refine wpAnyH_done (by kernel_rfl) ?_ _
  clear c0 c1 c2 c3 c4 c5 c6 c7
  obtain ⟨c0, c1, c2, c3, c4, c5, c6, c7⟩ := sb_of hx8
  go_wp2_with fail
  go_ret
  refine ⟨?_, hb8⟩
  show Ending.returned (Value.string _) = Ending.returned (Value.string _)
  congr 2
  apply Go.WideShapes.bytes_inj
  simp
set_option maxHeartbeats 2000000 in
theorem show_ask (h : 17 ≤ op ∧ op ≤ 27) : Calls Tryz.prog 36 #[.agg #[.int .u8 op, .bool nr, .int .i64 d, .int .i64 s, .bool u, .int .i64 o, .int .i64 m, .int .i64 z]] w fun e w' => e = .returned (.string ⟨(showI ⟨op, nr, d, s, u, o, m, z⟩).toArray⟩) ∧ Below w.heap.size w w' := by
  have n1 := (Below.refl w.heap.size w).alloc (Nat.le_refl _) (.cells #[.int .u8 op, .bool nr, .int .i64 d, .int .i64 s, .bool u, .int .i64 o, .int .i64 m, .int .i64 z] 40)
  have hx : Bk (w.alloc (.cells #[.int .u8 op, .bool nr, .int .i64 d, .int .i64 s, .bool u, .int .i64 o, .int .i64 m, .int .i64 z] 40)) w.heap.size 40 [.int .u8 op, .bool nr, .int .i64 d, .int .i64 s, .bool u, .int .i64 o, .int .i64 m, .int .i64 z] := Bk.new w _ _
  have hv1 := hv.below n1 hB
  have hit := itoa_any z hi.z.1 hi.z.2 _ hv1
  have hF : showI ⟨op, nr, d, s, u, o, m, z⟩ = firstS ⟨op, nr, d, s, u, o, m, z⟩ ++ 32 :: (regN d ++ 44 :: 32 :: (lastS ⟨op, nr, d, s, u, o, m, z⟩ ++ 44 :: 32 :: apartS o [])) := by
    unfold showI
    simp only [show op ≠ 28 by omega, show op ≠ 16 by omega, show op ≠ 14 by omega, show op ≠ 15 by omega, show op ≠ 13 by omega, show 17 ≤ op by omega, if_false, if_true]
  rw [hF]
  have lf := first_len ⟨op, nr, d, s, u, o, m, z⟩
  have lr : (regN d).length ≤ 22 := regN_len hi.d
  have ll : (lastS ⟨op, nr, d, s, u, o, m, z⟩).length ≤ 22 := by
    have a1 : (regN s).length ≤ 22 := regN_len hi.s
    have a2 : (Lib.itoa m).length ≤ 21 := Lib.itoa_length_le m hi.m.1 hi.m.2
    unfold lastS
    split <;> simp only <;> omega
  have lap : (apartS o []).length ≤ 22 := apart_len2 hi.o []
  have hfi := fun (W : World) (hW : Tv B W) (hWB : B ≤ W.heap.size) => first_any ⟨op, nr, d, s, u, o, m, z⟩ (.inr (by simp only; omega)) W hW hWB
  have hnm := fun (W : World) (hW : Tv B W) => name_any d hi.d W hW
  have hla := fun (W : World) (hW : Tv B W) (hWB : B ≤ W.heap.size) => last_any ⟨op, nr, d, s, u, o, m, z⟩ hi.m hi.s W hW hWB
  have hap := fun (W : World) (hW : Tv B W) => apart_any o hi.o [] (by decide) W hW
  clear hF
  unfold ivV at hfi hla
  generalize firstS ⟨op, nr, d, s, u, o, m, z⟩ = fi at *
  generalize lastS ⟨op, nr, d, s, u, o, m, z⟩ = la at *
  generalize apartS o [] = ap at *
  generalize regN d = rg at *
  have g1 : ¬ 9223372036854775807 < fi.length + 1 := by omega
  have g2 : ¬ 9223372036854775807 < fi.length + 1 + rg.length := by omega
  have g3 : ¬ 9223372036854775807 < fi.length + 1 + rg.length + 2 := by omega
  have g4 : ¬ 9223372036854775807 < fi.length + 1 + rg.length + 2 + la.length := by omega
  have g5 : ¬ 9223372036854775807 < 2 + ap.length := by omega
  have g6 : ¬ 9223372036854775807 < fi.length + 1 + rg.length + 2 + la.length + (2 + ap.length) := by omega
  have H := Lib.hid h
  clear h
  have d28 : decide (op = 28) = false := decide_eq_false (by have := H.out; omega)
  have e28 : (op == 28) = false := by have := H.out; simp; omega
  have d16 : decide (op = 16) = false := decide_eq_false (by have := H.out; omega)
  have e16 : (op == 16) = false := by have := H.out; simp; omega
  have d14 : decide (op = 14) = false := decide_eq_false (by have := H.out; omega)
  have e14 : (op == 14) = false := by have := H.out; simp; omega
  have d15 : decide (op = 15) = false := decide_eq_false (by have := H.out; omega)
  have e15 : (op == 15) = false := by have := H.out; simp; omega
  have d13 : decide (op = 13) = false := decide_eq_false (by have := H.out; omega)
  have e13 : (op == 13) = false := by have := H.out; simp; omega
  have d17 : decide ((17 : Int) ≤ op) = true := decide_eq_true (by have := H.out; omega)
  go_enter Tryz.func36, Tryz.ntmps36
  go_wp2_with fail
  (with_reducible refine hit.mono ?_)
  rintro _ w1 ⟨rfl, b1⟩
  have hx1 := hx.below b1 hx.lt
  have hbw := n1.trans (b1.mono n1.size)
  have hv2 := hv.below hbw hB
  obtain ⟨c0, c1, c2, c3, c4, c5, c6, c7⟩ := sb_of hx1
  clear hit hx b1 n1
  go_wp2_with fail
  have hdr := (Below.refl w1.heap.size w1).drew
  refine wp_region_held_drew (S := fun W => W.cell? ⟨w.heap.size, 0, none⟩ = some (.int .u8 op) ∧ W.cell? ⟨w.heap.size, 1, none⟩ = some (.bool nr) ∧ W.cell? ⟨w.heap.size, 2, none⟩ = some (.int .i64 d) ∧ W.cell? ⟨w.heap.size, 3, none⟩ = some (.int .i64 s) ∧ W.cell? ⟨w.heap.size, 4, none⟩ = some (.bool u) ∧ W.cell? ⟨w.heap.size, 5, none⟩ = some (.int .i64 o) ∧ W.cell? ⟨w.heap.size, 6, none⟩ = some (.int .i64 m) ∧ W.cell? ⟨w.heap.size, 7, none⟩ = some (.int .i64 z)) (by kernel_rfl) (sb_of (hx1.below hdr hx1.lt)) (fun hS => ?_)
  have hx5 := Bk.drew hx1
  have hb5 := hbw.drew
  have hv5 := hv.below hb5 hB
  refine wpAnyH_take (i := 0) (v := ?_) rfl (by kernel_rfl) (by kernel_rfl) (by kernel_rfl) (fun _ _ _ h => h) (Or.inl ⟨by rfl, ?_⟩) hS ?_
  rotate_left 1
  · intro w' hSw
    go_simp <;> with_reducible rfl
  try simp only [List.getElem_toArray, List.getElem_cons_zero, List.getElem_cons_succ, Act.put, List.setIfInBounds_toArray, List.set_cons_zero, List.set_cons_succ]
  refine wpAnyH_take (i := 3) (v := ?_) rfl (by kernel_rfl) (by kernel_rfl) (by kernel_rfl) (fun _ _ _ h => h) (Or.inl ⟨by rfl, ?_⟩) hS ?_
  rotate_left 1
  · intro w' hSw
    go_simp <;> with_reducible rfl
  try simp only [List.getElem_toArray, List.getElem_cons_zero, List.getElem_cons_succ, Act.put, List.setIfInBounds_toArray, List.set_cons_zero, List.set_cons_succ]
  refine wpAnyH_take (i := 4) (v := ?_) rfl (by kernel_rfl) (by kernel_rfl) (by kernel_rfl) (fun _ _ _ h => h) (Or.inl ⟨by rfl, ?_⟩) hS ?_
  rotate_left 1
  · intro w' hSw
    go_simp <;> with_reducible rfl
  try simp only [List.getElem_toArray, List.getElem_cons_zero, List.getElem_cons_succ, Act.put, List.setIfInBounds_toArray, List.set_cons_zero, List.set_cons_succ]
  refine wpAnyH_take (i := 8) (v := ?_) rfl (by kernel_rfl) (by kernel_rfl) (by kernel_rfl) (fun _ _ _ h => h) (Or.inl ⟨by rfl, ?_⟩) hS ?_
  rotate_left 1
  · intro w' hSw
    go_simp <;> with_reducible rfl
  try simp only [List.getElem_toArray, List.getElem_cons_zero, List.getElem_cons_succ, Act.put, List.setIfInBounds_toArray, List.set_cons_zero, List.set_cons_succ]
  refine wpAnyH_ready (rs := [1]) (by kernel_rfl) (by simp) (AllReadyH.cons rfl (fun K hK => ?_) AllReadyH.nil)
  go_simp
  (with_reducible refine (hfi _ hv5 (Nat.le_trans hB hb5.size)).mono ?_)
  rintro _ w6 ⟨rfl, y6⟩
  have hx6 := hx5.below y6 hx5.lt
  have hb6 := hb5.trans (y6.mono hb5.size)
  have hv6 := hv.below hb6 hB
  go_simp
  refine hK _ _ (sb_of hx6) (fun hS => ?_)
  clear hK K y6
  try simp only [List.getElem_toArray, List.getElem_cons_zero, List.getElem_cons_succ, Act.put, List.setIfInBounds_toArray, List.set_cons_zero, List.set_cons_succ]
  refine wpAnyH_take (i := 2) (v := ?_) rfl (by kernel_rfl) (by kernel_rfl) (by kernel_rfl) (fun _ _ _ h => h) (Or.inl ⟨by rfl, ?_⟩) hS ?_
  rotate_left 1
  · intro w' hSw
    go_simp <;> with_reducible rfl
  try simp only [List.getElem_toArray, List.getElem_cons_zero, List.getElem_cons_succ, Act.put, List.setIfInBounds_toArray, List.set_cons_zero, List.set_cons_succ]
  refine wpAnyH_ready (rs := [5]) (by kernel_rfl) (by simp) (AllReadyH.cons rfl (fun K hK => ?_) AllReadyH.nil)
  go_simp
  (with_reducible refine (hnm _ hv6).mono ?_)
  rintro _ w7 ⟨rfl, y7⟩
  have hx7 := hx6.below y7 hx6.lt
  have hb7 := hb6.trans (y7.mono hb6.size)
  have hv7 := hv.below hb7 hB
  go_simp
  refine hK _ _ (sb_of hx7) (fun hS => ?_)
  clear hK K y7
  try simp only [List.getElem_toArray, List.getElem_cons_zero, List.getElem_cons_succ, Act.put, List.setIfInBounds_toArray, List.set_cons_zero, List.set_cons_succ]
  refine wpAnyH_take (i := 6) (v := ?_) rfl (by kernel_rfl) (by kernel_rfl) (by kernel_rfl) (fun _ _ _ h => h) (Or.inl ⟨by rfl, ?_⟩) hS ?_
  rotate_left 1
  · intro w' hSw
    go_simp <;> with_reducible rfl
  try simp only [List.getElem_toArray, List.getElem_cons_zero, List.getElem_cons_succ, Act.put, List.setIfInBounds_toArray, List.set_cons_zero, List.set_cons_succ]
  refine wpAnyH_take (i := 7) (v := ?_) rfl (by kernel_rfl) (by kernel_rfl) (by kernel_rfl) (fun _ _ _ h => h) (Or.inl ⟨by rfl, ?_⟩) hS ?_
  rotate_left 1
  · intro w' hSw
    go_simp <;> with_reducible rfl
  try simp only [List.getElem_toArray, List.getElem_cons_zero, List.getElem_cons_succ, Act.put, List.setIfInBounds_toArray, List.set_cons_zero, List.set_cons_succ]
  refine wpAnyH_ready (rs := [9]) (by kernel_rfl) (by simp) (AllReadyH.cons rfl (fun K hK => ?_) AllReadyH.nil)
  go_simp
  (with_reducible refine (hla _ hv7 (Nat.le_trans hB hb7.size)).mono ?_)
  rintro _ w8 ⟨rfl, y8⟩
  have hx8 := hx7.below y8 hx7.lt
  have hb8 := hb7.trans (y8.mono hb7.size)
  have hv8 := hv.below hb8 hB
  go_simp
  refine hK _ _ (sb_of hx8) (fun hS => ?_)
  clear hK K y8
  try simp only [List.getElem_toArray, List.getElem_cons_zero, List.getElem_cons_succ, Act.put, List.setIfInBounds_toArray, List.set_cons_zero, List.set_cons_succ]
  refine wpAnyH_take (i := 10) (v := ?_) rfl (by kernel_rfl) (by kernel_rfl) (by kernel_rfl) (fun _ _ _ h => h) (Or.inl ⟨by rfl, ?_⟩) hS ?_
  rotate_left 1
  · intro w' hSw
    go_simp <;> with_reducible rfl
  try simp only [List.getElem_toArray, List.getElem_cons_zero, List.getElem_cons_succ, Act.put, List.setIfInBounds_toArray, List.set_cons_zero, List.set_cons_succ]
  refine wpAnyH_take (i := 11) (v := ?_) rfl (by kernel_rfl) (by kernel_rfl) (by kernel_rfl) (fun _ _ _ h => h) (Or.inl ⟨by rfl, ?_⟩) hS ?_
  rotate_left 1
  · intro w' hSw
    go_simp <;> with_reducible rfl
  try simp only [List.getElem_toArray, List.getElem_cons_zero, List.getElem_cons_succ, Act.put, List.setIfInBounds_toArray, List.set_cons_zero, List.set_cons_succ]
  refine wpAnyH_done (by kernel_rfl) ?_ _
  clear c0 c1 c2 c3 c4 c5 c6 c7
  obtain ⟨c0, c1, c2, c3, c4, c5, c6, c7⟩ := sb_of hx8
  go_wp2_with fail
  (with_reducible refine (hap w8 hv8).mono ?_)
  rintro _ w9 ⟨rfl, b9⟩
  have hb9 := hb8.trans (b9.mono hb8.size)
  go_wp2_with fail
  go_ret
  refine ⟨?_, hb9⟩
  show Ending.returned (Value.string _) = Ending.returned (Value.string _)
  congr 2
  apply Go.WideShapes.bytes_inj
  simp
end
end Go.Proofs.YtjebjninlejoeaaGreatDoor

