/- text, the walk: an instruction's line. -/
import Derived.Test.YtjebjninlejoeaaGreatDoorX15
namespace Go.Proofs.YtjebjninlejoeaaGreatDoor
open Go.RowKit Go.Maps Go.ChangeMaps
set_option linter.unusedVariables false
set_option linter.unusedSimpArgs false
set_option linter.unusedSectionVars false
set_option maxRecDepth 100000

/-- Numbers that an int holds, and not the least one at Off. -/
structure IvOk (i : IV) : Prop where
  d : I64 i.dst
  s : I64 i.src
  o : -9223372036854775807 ≤ i.off ∧ i.off ≤ 9223372036854775807
  m : I64 i.imm
  z : I64 i.size
def SB (b : Nat) (op : Int) (nr : Bool) (d s : Int) (u : Bool) (o m z : Int) (W : World) : Prop :=
  W.cell? ⟨b, 0, none⟩ = some (.int .u8 op) ∧ W.cell? ⟨b, 1, none⟩ = some (.bool nr) ∧ W.cell? ⟨b, 2, none⟩ = some (.int .i64 d) ∧ W.cell? ⟨b, 3, none⟩ = some (.int .i64 s) ∧ W.cell? ⟨b, 4, none⟩ = some (.bool u) ∧ W.cell? ⟨b, 5, none⟩ = some (.int .i64 o) ∧ W.cell? ⟨b, 6, none⟩ = some (.int .i64 m) ∧ W.cell? ⟨b, 7, none⟩ = some (.int .i64 z)
theorem sb_of {b : Nat} {op : Int} {nr : Bool} {d s : Int} {u : Bool} {o m z : Int} {W : World} (h : Bk W b 40 [.int .u8 op, .bool nr, .int .i64 d, .int .i64 s, .bool u, .int .i64 o, .int .i64 m, .int .i64 z]) : SB b op nr d s u o m z W :=
  ⟨h.cell 0, h.cell 1, h.cell 2, h.cell 3, h.cell 4, h.cell 5, h.cell 6, h.cell 7⟩
section
variable (op : Int) (nr : Bool) (d s : Int) (u : Bool) (o m z : Int) (hi : IvOk ⟨op, nr, d, s, u, o, m, z⟩) {B : Nat} (w : World) (hv : Tv B w) (hB : B ≤ w.heap.size)
include hi hv hB
theorem show_jump (h : op = 16) : Calls Tryz.prog 36 #[.agg #[.int .u8 op, .bool nr, .int .i64 d, .int .i64 s, .bool u, .int .i64 o, .int .i64 m, .int .i64 z]] w fun e w' => e = .returned (.string ⟨(showI ⟨op, nr, d, s, u, o, m, z⟩).toArray⟩) ∧ Below w.heap.size w w' := by
  have n1 := (Below.refl w.heap.size w).alloc (Nat.le_refl _) (.cells #[.int .u8 op, .bool nr, .int .i64 d, .int .i64 s, .bool u, .int .i64 o, .int .i64 m, .int .i64 z] 40)
  have hx : Bk (w.alloc (.cells #[.int .u8 op, .bool nr, .int .i64 d, .int .i64 s, .bool u, .int .i64 o, .int .i64 m, .int .i64 z] 40)) w.heap.size 40 [.int .u8 op, .bool nr, .int .i64 d, .int .i64 s, .bool u, .int .i64 o, .int .i64 m, .int .i64 z] := Bk.new w _ _
  have hv1 := hv.below n1 hB
  have hit := itoa_any z hi.z.1 hi.z.2 _ hv1
  have hc1 : ((⟨#[106, 117, 109, 112, 32]⟩ : ByteArray) ++ ⟨(apartS o []).toArray⟩) = ⟨((jumpW ++ [32]) ++ apartS o []).toArray⟩ := cat_is (jumpW ++ [32]) _
  have hF : showI ⟨op, nr, d, s, u, o, m, z⟩ = (jumpW ++ [32]) ++ apartS o [] := by unfold showI; subst h; simp
  rw [hF]
  have l2 := apart_len2 hi.o []
  simp only [List.length_nil] at l2
  have hap := fun (W : World) (hW : Tv B W) => apart_any o hi.o [] (by decide) W hW
  have H := Lib.hid h
  clear hF
  subst h
  generalize apartS o [] = ap at *
  go_enter Tryz.func36, Tryz.ntmps36
  go_wp2_with fail
  (with_reducible refine hit.mono ?_)
  rintro _ w1 ⟨rfl, b1⟩
  have hx1 := hx.below b1 hx.lt
  have hbw := n1.trans (b1.mono n1.size)
  have hv2 := hv.below hbw hB
  obtain ⟨c0, c1, c2, c3, c4, c5, c6, c7⟩ := sb_of hx1
  clear hit hx b1 n1
  go_wp2_with fail
  (with_reducible refine (hap w1 hv2).mono ?_)
  rintro _ w2 ⟨rfl, b2⟩
  go_wp2_with fail
  go_ret
  refine ⟨?_, hbw.trans (b2.mono hbw.size)⟩
  show Ending.returned (Value.string _) = Ending.returned (Value.string _)
  congr 2
theorem show_exit (h : op = 28) : Calls Tryz.prog 36 #[.agg #[.int .u8 op, .bool nr, .int .i64 d, .int .i64 s, .bool u, .int .i64 o, .int .i64 m, .int .i64 z]] w fun e w' => e = .returned (.string ⟨(showI ⟨op, nr, d, s, u, o, m, z⟩).toArray⟩) ∧ Below w.heap.size w w' := by
  have n1 := (Below.refl w.heap.size w).alloc (Nat.le_refl _) (.cells #[.int .u8 op, .bool nr, .int .i64 d, .int .i64 s, .bool u, .int .i64 o, .int .i64 m, .int .i64 z] 40)
  have hx : Bk (w.alloc (.cells #[.int .u8 op, .bool nr, .int .i64 d, .int .i64 s, .bool u, .int .i64 o, .int .i64 m, .int .i64 z] 40)) w.heap.size 40 [.int .u8 op, .bool nr, .int .i64 d, .int .i64 s, .bool u, .int .i64 o, .int .i64 m, .int .i64 z] := Bk.new w _ _
  have hv1 := hv.below n1 hB
  have hit := itoa_any z hi.z.1 hi.z.2 _ hv1
  have hF : showI ⟨op, nr, d, s, u, o, m, z⟩ = exitW := by unfold showI; subst h; simp
  rw [hF]
  clear hF
  subst h
  go_enter Tryz.func36, Tryz.ntmps36
  go_wp2_with fail
  (with_reducible refine hit.mono ?_)
  rintro _ w1 ⟨rfl, b1⟩
  have hx1 := hx.below b1 hx.lt
  have hbw := n1.trans (b1.mono n1.size)
  have hv2 := hv.below hbw hB
  obtain ⟨c0, c1, c2, c3, c4, c5, c6, c7⟩ := sb_of hx1
  clear hit hx b1 n1
  go_wp2_with fail
  go_ret
  exact ⟨rfl, hbw⟩
set_option maxHeartbeats 2000000 in
theorem show_neg (h : op = 13) : Calls Tryz.prog 36 #[.agg #[.int .u8 op, .bool nr, .int .i64 d, .int .i64 s, .bool u, .int .i64 o, .int .i64 m, .int .i64 z]] w fun e w' => e = .returned (.string ⟨(showI ⟨op, nr, d, s, u, o, m, z⟩).toArray⟩) ∧ Below w.heap.size w w' := by
  have n1 := (Below.refl w.heap.size w).alloc (Nat.le_refl _) (.cells #[.int .u8 op, .bool nr, .int .i64 d, .int .i64 s, .bool u, .int .i64 o, .int .i64 m, .int .i64 z] 40)
  have hx : Bk (w.alloc (.cells #[.int .u8 op, .bool nr, .int .i64 d, .int .i64 s, .bool u, .int .i64 o, .int .i64 m, .int .i64 z] 40)) w.heap.size 40 [.int .u8 op, .bool nr, .int .i64 d, .int .i64 s, .bool u, .int .i64 o, .int .i64 m, .int .i64 z] := Bk.new w _ _
  have hv1 := hv.below n1 hB
  have hit := itoa_any z hi.z.1 hi.z.2 _ hv1
  have hF : showI ⟨op, nr, d, s, u, o, m, z⟩ = (firstS ⟨op, nr, d, s, u, o, m, z⟩ ++ [32]) ++ regN d := by unfold showI; subst h; simp
  rw [hF]
  have lf := first_len ⟨op, nr, d, s, u, o, m, z⟩
  have lr := regN_len hi.d
  have hfi := fun (W : World) (hW : Tv B W) (hWB : B ≤ W.heap.size) => first_any ⟨op, nr, d, s, u, o, m, z⟩ (.inl (by simp only; omega)) W hW hWB
  have hnm := fun (W : World) (hW : Tv B W) => name_any d hi.d W hW
  clear hF
  unfold ivV at hfi
  generalize firstS ⟨op, nr, d, s, u, o, m, z⟩ = fi at *
  generalize regN d = rg at *
  have hc1 : ((⟨fi.toArray⟩ : ByteArray) ++ ⟨#[32]⟩) = ⟨(fi ++ [32]).toArray⟩ := cat_is fi [32]
  have hc2 : ((⟨(fi ++ [32]).toArray⟩ : ByteArray) ++ ⟨rg.toArray⟩) = ⟨((fi ++ [32]) ++ rg).toArray⟩ := cat_is _ _
  have g1 : ¬ 9223372036854775807 < fi.length + 1 := by omega
  have g2 : ¬ 9223372036854775807 < fi.length + 1 + rg.length := by omega
  have H := Lib.hid h
  clear h
  have d28 : decide (op = 28) = false := decide_eq_false (by have := H.out; omega)
  have e28 : (op == 28) = false := by have := H.out; simp; omega
  have d16 : decide (op = 16) = false := decide_eq_false (by have := H.out; omega)
  have e16 : (op == 16) = false := by have := H.out; simp; omega
  have d14 : decide (op = 14) = false := decide_eq_false (by have := H.out; omega)
  have e14 : (op == 14) = false := by have := H.out; simp; omega
  have d15 : decide (op = 15) = false := decide_eq_false (by have := H.out; omega)
  have e15 : (op == 15) = false := by have := H.out; simp; omega
  have d13 : decide (op = 13) = true := decide_eq_true H.out
  have e13 : (op == 13) = true := by have := H.out; simp; omega
  go_enter Tryz.func36, Tryz.ntmps36
  go_wp2_with fail
  (with_reducible refine hit.mono ?_)
  rintro _ w1 ⟨rfl, b1⟩
  have hx1 := hx.below b1 hx.lt
  have hbw := n1.trans (b1.mono n1.size)
  have hv2 := hv.below hbw hB
  obtain ⟨c0, c1, c2, c3, c4, c5, c6, c7⟩ := sb_of hx1
  clear hit hx b1 n1
  go_wp2_with fail
  have hdr := (Below.refl w1.heap.size w1).drew
  refine wp_region_held_drew (S := fun W => W.cell? ⟨w.heap.size, 0, none⟩ = some (.int .u8 op) ∧ W.cell? ⟨w.heap.size, 1, none⟩ = some (.bool nr) ∧ W.cell? ⟨w.heap.size, 2, none⟩ = some (.int .i64 d) ∧ W.cell? ⟨w.heap.size, 3, none⟩ = some (.int .i64 s) ∧ W.cell? ⟨w.heap.size, 4, none⟩ = some (.bool u) ∧ W.cell? ⟨w.heap.size, 5, none⟩ = some (.int .i64 o) ∧ W.cell? ⟨w.heap.size, 6, none⟩ = some (.int .i64 m) ∧ W.cell? ⟨w.heap.size, 7, none⟩ = some (.int .i64 z)) (by kernel_rfl) (sb_of (hx1.below hdr hx1.lt)) (fun hS => ?_)
  refine wpAnyH_take (i := 0) (v := ?_) rfl (by kernel_rfl) (by kernel_rfl) (by kernel_rfl) (fun _ _ _ h => h) (Or.inl ⟨by rfl, ?_⟩) hS ?_
  rotate_left 1
  · intro w' hSw
    go_simp <;> with_reducible rfl
  try simp only [List.getElem_toArray, List.getElem_cons_zero, List.getElem_cons_succ, Act.put, List.setIfInBounds_toArray, List.set_cons_zero, List.set_cons_succ]
  refine wpAnyH_take (i := 3) (v := ?_) rfl (by kernel_rfl) (by kernel_rfl) (by kernel_rfl) (fun _ _ _ h => h) (Or.inl ⟨by rfl, ?_⟩) hS ?_
  rotate_left 1
  · intro w' hSw
    go_simp <;> with_reducible rfl
  try simp only [List.getElem_toArray, List.getElem_cons_zero, List.getElem_cons_succ, Act.put, List.setIfInBounds_toArray, List.set_cons_zero, List.set_cons_succ]
  refine wpAnyH_take (i := 4) (v := ?_) rfl (by kernel_rfl) (by kernel_rfl) (by kernel_rfl) (fun _ _ _ h => h) (Or.inl ⟨by rfl, ?_⟩) hS ?_
  rotate_left 1
  · intro w' hSw
    go_simp <;> with_reducible rfl
  try simp only [List.getElem_toArray, List.getElem_cons_zero, List.getElem_cons_succ, Act.put, List.setIfInBounds_toArray, List.set_cons_zero, List.set_cons_succ]
  refine wpAnyH_ready (rs := [1]) (by kernel_rfl) (by simp) (AllReadyH.cons rfl (fun K hK => ?_) AllReadyH.nil)
  go_simp
  (with_reducible refine (hfi _ hv2.drew (Nat.le_trans hB hbw.drew.size)).mono ?_)
  rintro _ w5 ⟨rfl, b5⟩
  have hx5 := (Bk.drew hx1).below b5 (Bk.drew hx1).lt
  have hb5 := hbw.drew.trans (b5.mono hbw.drew.size)
  have hv5 := hv.below hb5 hB
  go_simp
  refine hK _ _ (sb_of hx5) (fun hS => ?_)
  clear hK K b5
  try simp only [List.getElem_toArray, List.getElem_cons_zero, List.getElem_cons_succ, Act.put, List.setIfInBounds_toArray, List.set_cons_zero, List.set_cons_succ]
  refine wpAnyH_take (i := 2) (v := ?_) rfl (by kernel_rfl) (by kernel_rfl) (by kernel_rfl) (fun _ _ _ h => h) (Or.inl ⟨by rfl, ?_⟩) hS ?_
  rotate_left 1
  · intro w' hSw
    go_simp <;> with_reducible rfl
  try simp only [List.getElem_toArray, List.getElem_cons_zero, List.getElem_cons_succ, Act.put, List.setIfInBounds_toArray, List.set_cons_zero, List.set_cons_succ]
  refine wpAnyH_ready (rs := [5]) (by kernel_rfl) (by simp) (AllReadyH.cons rfl (fun K hK => ?_) AllReadyH.nil)
  go_simp
  (with_reducible refine (hnm w5 hv5).mono ?_)
  rintro _ w6 ⟨rfl, b6⟩
  have hx6 := hx5.below b6 hx5.lt
  have hb6 := hb5.trans (b6.mono hb5.size)
  go_simp
  refine hK _ _ (sb_of hx6) (fun hS => ?_)
  clear hK K b6
  try simp only [List.getElem_toArray, List.getElem_cons_zero, List.getElem_cons_succ, Act.put, List.setIfInBounds_toArray, List.set_cons_zero, List.set_cons_succ]
  refine wpAnyH_take (i := 6) (v := ?_) rfl (by kernel_rfl) (by kernel_rfl) (by kernel_rfl) (fun _ _ _ h => h) (Or.inl ⟨by rfl, ?_⟩) hS ?_
  rotate_left 1
  · intro w' hSw
    go_simp <;> with_reducible rfl
  try simp only [List.getElem_toArray, List.getElem_cons_zero, List.getElem_cons_succ, Act.put, List.setIfInBounds_toArray, List.set_cons_zero, List.set_cons_succ]
  refine wpAnyH_take (i := 7) (v := ?_) rfl (by kernel_rfl) (by kernel_rfl) (by kernel_rfl) (fun _ _ _ h => h) (Or.inl ⟨by rfl, ?_⟩) hS ?_
  rotate_left 1
  · intro w' hSw
    go_simp <;> with_reducible rfl
  try simp only [List.getElem_toArray, List.getElem_cons_zero, List.getElem_cons_succ, Act.put, List.setIfInBounds_toArray, List.set_cons_zero, List.set_cons_succ]
  refine wpAnyH_done (by kernel_rfl) ?_ _
  go_wp2_with fail
  go_ret
  refine ⟨?_, hb6⟩
  show Ending.returned (Value.string _) = Ending.returned (Value.string _)
  congr 2 <;> simp
end
end Go.Proofs.YtjebjninlejoeaaGreatDoor

