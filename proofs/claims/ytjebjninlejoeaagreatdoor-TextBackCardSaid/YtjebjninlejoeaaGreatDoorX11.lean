/- text, the walk: is an instruction right? -/
import Derived.Test.YtjebjninlejoeaaGreatDoorX6
namespace Go.Proofs.YtjebjninlejoeaaGreatDoor
open Go.RowKit Go.Maps Go.ChangeMaps
set_option linter.unusedVariables false
set_option linter.unusedSimpArgs false
set_option linter.unusedSectionVars false
set_option maxRecDepth 100000

set_option maxHeartbeats 4000000 in
theorem right_aluI (op : Int) (nr : Bool) (d s o m z : Int) (h : 1 ≤ op ∧ op ≤ 12) (w : World) : Calls Tryz.prog 16 #[.agg #[.int .u8 op, .bool nr, .int .i64 d, .int .i64 s, .bool true, .int .i64 o, .int .i64 m, .int .i64 z]] w fun e w' => e = .returned (.bool (rightP ⟨op, nr, d, s, true, o, m, z⟩)) ∧ Below w.heap.size w w' := by
  have hf := fields_any op
  have e0 : fldP op = 201 := by unfold fldP; (repeat' split) <;> omega
  rw [e0] at hf
  have HR : Hid (rightP ⟨op, nr, d, s, true, o, m, z⟩ = (inI d 0 9 && secR (⟨op, nr, d, s, true, o, m, z⟩ : IV) && decide (o = 0) && decide (z = 0))) := Lib.hid (by unfold rightP; rw [if_pos h])
  have H := Lib.hid h
  clear h
  have hb3 : bits .and .i64 201 3 = 1 := by decide +kernel
  have hb4 : bits .and .i64 201 4 = 0 := by decide +kernel
  have hb8 : bits .and .i64 201 8 = 8 := by decide +kernel
  have hb16 : bits .and .i64 201 16 = 0 := by decide +kernel
  have hb32 : bits .and .i64 201 32 = 0 := by decide +kernel
  have hb64 : bits .and .i64 201 64 = 64 := by decide +kernel
  have hb1 : bits .and .i64 201 1 = 1 := by decide +kernel
  go_enter Tryz.func16, Tryz.ntmps16
  go_wp2_with fail
  (with_reducible refine (hf _).mono ?_)
  rintro _ w1 ⟨rfl, rfl⟩
  clear hf e0
  go_wp2_with ((go_at_call 42; (with_reducible refine (within_any _ _ _ _).mono ?_); rintro e w' ⟨rfl, rfl⟩))
  refine wp_region_held_drew (S := fun W => W.cell? ⟨w.heap.size, 6, none⟩ = some (.int .i64 m)) (by kernel_rfl) (by first | (go_simp; done) | (simp; done)) (fun hS => ?_)
  refine wpAnyH_take (i := 0) (v := ?_) rfl (by kernel_rfl) (by kernel_rfl) (by kernel_rfl) (fun _ _ _ h => h) (Or.inl ⟨by rfl, ?_⟩) hS ?_
  rotate_left 1
  · intro w' hSw
    go_simp <;> with_reducible rfl
  try simp only [List.getElem_toArray, List.getElem_cons_zero, List.getElem_cons_succ, Act.put, List.setIfInBounds_toArray, List.set_cons_zero, List.set_cons_succ]
  refine wpAnyH_take (i := 1) (v := ?_) rfl (by kernel_rfl) (by kernel_rfl) (by kernel_rfl) (fun _ _ _ h => h) (Or.inl ⟨by rfl, ?_⟩) hS ?_
  rotate_left 1
  · intro w' hSw
    go_simp <;> with_reducible rfl
  try simp only [List.getElem_toArray, List.getElem_cons_zero, List.getElem_cons_succ, Act.put, List.setIfInBounds_toArray, List.set_cons_zero, List.set_cons_succ]
  refine wpAnyH_take (i := 2) (v := ?_) rfl (by kernel_rfl) (by kernel_rfl) (by kernel_rfl) (fun _ _ _ h => h) (Or.inl ⟨by rfl, ?_⟩) hS ?_
  rotate_left 1
  · intro w' hSw
    go_simp <;> with_reducible rfl
  try simp only [List.getElem_toArray, List.getElem_cons_zero, List.getElem_cons_succ, Act.put, List.setIfInBounds_toArray, List.set_cons_zero, List.set_cons_succ]
  refine wpAnyH_ready (rs := [3]) (by kernel_rfl) (by simp) (AllReadyH.cons rfl (fun K hK => ?_) AllReadyH.nil)
  go_simp
  refine hK _ _ (by first | (go_simp; done) | (simp; done)) (fun hS => ?_)
  clear hK K
  try simp only [List.getElem_toArray, List.getElem_cons_zero, List.getElem_cons_succ, Act.put, List.setIfInBounds_toArray, List.set_cons_zero, List.set_cons_succ]
  refine wpAnyH_take (i := 4) (v := ?_) rfl (by kernel_rfl) (by kernel_rfl) (by kernel_rfl) (fun _ _ _ h => h) (Or.inl ⟨by rfl, ?_⟩) hS ?_
  rotate_left 1
  · intro w' hSw
    go_simp <;> with_reducible rfl
  try simp only [List.getElem_toArray, List.getElem_cons_zero, List.getElem_cons_succ, Act.put, List.setIfInBounds_toArray, List.set_cons_zero, List.set_cons_succ]
  refine wpAnyH_ready (rs := [5]) (by kernel_rfl) (by simp) (AllReadyH.cons rfl (fun K hK => ?_) AllReadyH.nil)
  go_simp
  refine hK _ _ (by first | (go_simp; done) | (simp; done)) (fun hS => ?_)
  clear hK K
  try simp only [List.getElem_toArray, List.getElem_cons_zero, List.getElem_cons_succ, Act.put, List.setIfInBounds_toArray, List.set_cons_zero, List.set_cons_succ]
  refine wpAnyH_done (by kernel_rfl) ?_ _
  go_wp2_with ((go_at_call 42; (with_reducible refine (within_any _ _ _ _).mono ?_); rintro e w' ⟨rfl, rfl⟩))
  all_goals
    go_ret
    have h := H.out
    clear H
    refine ⟨?_, ?_⟩
    · show Ending.returned (Value.bool _) = Ending.returned (Value.bool _)
      rw [HR.out]
      congr 2
      first
        | (simp_all [secR, farR, sizeR, inI, iv0]; done)
        | (simp_all [secR, farR, sizeR, inI, iv0]; omega)
        | skip
    · first
        | exact (((Below.refl _ _).alloc (Nat.le_refl _) _).alloc (by simp only [World.size_alloc]; omega) _).drew
        | exact (((Below.refl _ _).alloc (Nat.le_refl _) _).alloc (by simp only [World.size_alloc]; omega) _).drew.alloc (by simp only [World.size_drew, World.size_alloc]; omega) _
        | exact ((((Below.refl _ _).alloc (Nat.le_refl _) _).alloc (by simp only [World.size_alloc]; omega) _).alloc (by simp only [World.size_alloc]; omega) _).drew
        | exact ((Below.refl _ _).alloc (Nat.le_refl _) _).alloc (by simp only [World.size_alloc]; omega) _
        | exact (((Below.refl _ _).alloc (Nat.le_refl _) _).alloc (by simp only [World.size_alloc]; omega) _).alloc (by simp only [World.size_alloc]; omega) _
        | skip
set_option maxHeartbeats 4000000 in
theorem right_putI (op : Int) (nr : Bool) (d s o m z : Int) (h : op = 15) (w : World) : Calls Tryz.prog 16 #[.agg #[.int .u8 op, .bool nr, .int .i64 d, .int .i64 s, .bool true, .int .i64 o, .int .i64 m, .int .i64 z]] w fun e w' => e = .returned (.bool (rightP ⟨op, nr, d, s, true, o, m, z⟩)) ∧ Below w.heap.size w w' := by
  have hf := fields_any op
  have e0 : fldP op = 186 := by unfold fldP; (repeat' split) <;> omega
  rw [e0] at hf
  have HR : Hid (rightP ⟨op, nr, d, s, true, o, m, z⟩ = (inI d 0 10 && farR (⟨op, nr, d, s, true, o, m, z⟩ : IV) && sizeR (⟨op, nr, d, s, true, o, m, z⟩ : IV) && secR (⟨op, nr, d, s, true, o, m, z⟩ : IV) && !nr)) := Lib.hid (by unfold rightP; rw [if_neg (by simp only; omega), if_neg (by simp only; omega), if_neg (by simp only; omega), if_pos h])
  have H := Lib.hid h
  clear h
  have hb3 : bits .and .i64 186 3 = 2 := by decide +kernel
  have hb4 : bits .and .i64 186 4 = 0 := by decide +kernel
  have hb8 : bits .and .i64 186 8 = 8 := by decide +kernel
  have hb16 : bits .and .i64 186 16 = 16 := by decide +kernel
  have hb32 : bits .and .i64 186 32 = 32 := by decide +kernel
  have hb64 : bits .and .i64 186 64 = 0 := by decide +kernel
  have hb1 : bits .and .i64 186 1 = 0 := by decide +kernel
  go_enter Tryz.func16, Tryz.ntmps16
  go_wp2_with fail
  (with_reducible refine (hf _).mono ?_)
  rintro _ w1 ⟨rfl, rfl⟩
  clear hf e0
  go_wp2_with (first | (go_at_call 42; (with_reducible refine (within_any _ _ _ _).mono ?_); rintro e w' ⟨rfl, rfl⟩) | (go_at_call 41; (with_reducible refine (sizes_new _ _ _ (by first | (simp [World.setCell]; done) | (simp [World.setCell, World.drew]; done))).mono ?_); rintro e w' ⟨rfl, rfl⟩) | (go_at_call 41; (with_reducible refine (sizes_newD _ _ _ (by simp [World.setCell])).mono ?_); rintro e w' ⟨rfl, rfl⟩))
  refine wp_region_held_drew (S := fun W => W.cell? ⟨w.heap.size, 6, none⟩ = some (.int .i64 m)) (by kernel_rfl) (by first | (go_simp; done) | (simp; done)) (fun hS => ?_)
  refine wpAnyH_take (i := 0) (v := ?_) rfl (by kernel_rfl) (by kernel_rfl) (by kernel_rfl) (fun _ _ _ h => h) (Or.inl ⟨by rfl, ?_⟩) hS ?_
  rotate_left 1
  · intro w' hSw
    go_simp <;> with_reducible rfl
  try simp only [List.getElem_toArray, List.getElem_cons_zero, List.getElem_cons_succ, Act.put, List.setIfInBounds_toArray, List.set_cons_zero, List.set_cons_succ]
  refine wpAnyH_take (i := 1) (v := ?_) rfl (by kernel_rfl) (by kernel_rfl) (by kernel_rfl) (fun _ _ _ h => h) (Or.inl ⟨by rfl, ?_⟩) hS ?_
  rotate_left 1
  · intro w' hSw
    go_simp <;> with_reducible rfl
  try simp only [List.getElem_toArray, List.getElem_cons_zero, List.getElem_cons_succ, Act.put, List.setIfInBounds_toArray, List.set_cons_zero, List.set_cons_succ]
  refine wpAnyH_take (i := 2) (v := ?_) rfl (by kernel_rfl) (by kernel_rfl) (by kernel_rfl) (fun _ _ _ h => h) (Or.inl ⟨by rfl, ?_⟩) hS ?_
  rotate_left 1
  · intro w' hSw
    go_simp <;> with_reducible rfl
  try simp only [List.getElem_toArray, List.getElem_cons_zero, List.getElem_cons_succ, Act.put, List.setIfInBounds_toArray, List.set_cons_zero, List.set_cons_succ]
  refine wpAnyH_ready (rs := [3]) (by kernel_rfl) (by simp) (AllReadyH.cons rfl (fun K hK => ?_) AllReadyH.nil)
  go_simp
  refine hK _ _ (by first | (go_simp; done) | (simp; done)) (fun hS => ?_)
  clear hK K
  try simp only [List.getElem_toArray, List.getElem_cons_zero, List.getElem_cons_succ, Act.put, List.setIfInBounds_toArray, List.set_cons_zero, List.set_cons_succ]
  refine wpAnyH_take (i := 4) (v := ?_) rfl (by kernel_rfl) (by kernel_rfl) (by kernel_rfl) (fun _ _ _ h => h) (Or.inl ⟨by rfl, ?_⟩) hS ?_
  rotate_left 1
  · intro w' hSw
    go_simp <;> with_reducible rfl
  try simp only [List.getElem_toArray, List.getElem_cons_zero, List.getElem_cons_succ, Act.put, List.setIfInBounds_toArray, List.set_cons_zero, List.set_cons_succ]
  refine wpAnyH_ready (rs := [5]) (by kernel_rfl) (by simp) (AllReadyH.cons rfl (fun K hK => ?_) AllReadyH.nil)
  go_simp
  refine hK _ _ (by first | (go_simp; done) | (simp; done)) (fun hS => ?_)
  clear hK K
  try simp only [List.getElem_toArray, List.getElem_cons_zero, List.getElem_cons_succ, Act.put, List.setIfInBounds_toArray, List.set_cons_zero, List.set_cons_succ]
  refine wpAnyH_done (by kernel_rfl) ?_ _
  go_wp2_with (first | (go_at_call 42; (with_reducible refine (within_any _ _ _ _).mono ?_); rintro e w' ⟨rfl, rfl⟩) | (go_at_call 41; (with_reducible refine (sizes_new _ _ _ (by first | (simp [World.setCell]; done) | (simp [World.setCell, World.drew]; done))).mono ?_); rintro e w' ⟨rfl, rfl⟩) | (go_at_call 41; (with_reducible refine (sizes_newD _ _ _ (by simp [World.setCell])).mono ?_); rintro e w' ⟨rfl, rfl⟩))
  all_goals
    go_ret
    have h := H.out
    clear H
    refine ⟨?_, ?_⟩
    · show Ending.returned (Value.bool _) = Ending.returned (Value.bool _)
      rw [HR.out]
      congr 2
      first
        | (simp_all [secR, farR, sizeR, inI, iv0]; done)
        | (simp_all [secR, farR, sizeR, inI, iv0]; omega)
        | skip
    · first
        | exact (((Below.refl _ _).alloc (Nat.le_refl _) _).alloc (by simp only [World.size_alloc]; omega) _).drew
        | exact (((Below.refl _ _).alloc (Nat.le_refl _) _).alloc (by simp only [World.size_alloc]; omega) _).drew.alloc (by simp only [World.size_drew, World.size_alloc]; omega) _
        | exact ((((Below.refl _ _).alloc (Nat.le_refl _) _).alloc (by simp only [World.size_alloc]; omega) _).alloc (by simp only [World.size_alloc]; omega) _).drew
        | exact ((Below.refl _ _).alloc (Nat.le_refl _) _).alloc (by simp only [World.size_alloc]; omega) _
        | exact (((Below.refl _ _).alloc (Nat.le_refl _) _).alloc (by simp only [World.size_alloc]; omega) _).alloc (by simp only [World.size_alloc]; omega) _
        | skip
set_option maxHeartbeats 4000000 in
theorem right_askI (op : Int) (nr : Bool) (d s o m z : Int) (h : 17 ≤ op ∧ op ≤ 27) (w : World) : Calls Tryz.prog 16 #[.agg #[.int .u8 op, .bool nr, .int .i64 d, .int .i64 s, .bool true, .int .i64 o, .int .i64 m, .int .i64 z]] w fun e w' => e = .returned (.bool (rightP ⟨op, nr, d, s, true, o, m, z⟩)) ∧ Below w.heap.size w w' := by
  have hf := fields_any op
  have e0 : fldP op = 218 := by unfold fldP; (repeat' split) <;> omega
  rw [e0] at hf
  have HR : Hid (rightP ⟨op, nr, d, s, true, o, m, z⟩ = (inI d 0 10 && farR (⟨op, nr, d, s, true, o, m, z⟩ : IV) && secR (⟨op, nr, d, s, true, o, m, z⟩ : IV) && decide (z = 0))) := Lib.hid (by unfold rightP; rw [if_neg (by simp only; omega), if_neg (by simp only; omega), if_neg (by simp only; omega), if_neg (by simp only; omega), if_neg (by simp only; omega), if_pos h])
  have H := Lib.hid h
  clear h
  have hb3 : bits .and .i64 218 3 = 2 := by decide +kernel
  have hb4 : bits .and .i64 218 4 = 0 := by decide +kernel
  have hb8 : bits .and .i64 218 8 = 8 := by decide +kernel
  have hb16 : bits .and .i64 218 16 = 16 := by decide +kernel
  have hb32 : bits .and .i64 218 32 = 0 := by decide +kernel
  have hb64 : bits .and .i64 218 64 = 64 := by decide +kernel
  have hb1 : bits .and .i64 218 1 = 0 := by decide +kernel
  go_enter Tryz.func16, Tryz.ntmps16
  go_wp2_with fail
  (with_reducible refine (hf _).mono ?_)
  rintro _ w1 ⟨rfl, rfl⟩
  clear hf e0
  go_wp2_with ((go_at_call 42; (with_reducible refine (within_any _ _ _ _).mono ?_); rintro e w' ⟨rfl, rfl⟩))
  refine wp_region_held_drew (S := fun W => W.cell? ⟨w.heap.size, 6, none⟩ = some (.int .i64 m)) (by kernel_rfl) (by first | (go_simp; done) | (simp; done)) (fun hS => ?_)
  refine wpAnyH_take (i := 0) (v := ?_) rfl (by kernel_rfl) (by kernel_rfl) (by kernel_rfl) (fun _ _ _ h => h) (Or.inl ⟨by rfl, ?_⟩) hS ?_
  rotate_left 1
  · intro w' hSw
    go_simp <;> with_reducible rfl
  try simp only [List.getElem_toArray, List.getElem_cons_zero, List.getElem_cons_succ, Act.put, List.setIfInBounds_toArray, List.set_cons_zero, List.set_cons_succ]
  refine wpAnyH_take (i := 1) (v := ?_) rfl (by kernel_rfl) (by kernel_rfl) (by kernel_rfl) (fun _ _ _ h => h) (Or.inl ⟨by rfl, ?_⟩) hS ?_
  rotate_left 1
  · intro w' hSw
    go_simp <;> with_reducible rfl
  try simp only [List.getElem_toArray, List.getElem_cons_zero, List.getElem_cons_succ, Act.put, List.setIfInBounds_toArray, List.set_cons_zero, List.set_cons_succ]
  refine wpAnyH_take (i := 2) (v := ?_) rfl (by kernel_rfl) (by kernel_rfl) (by kernel_rfl) (fun _ _ _ h => h) (Or.inl ⟨by rfl, ?_⟩) hS ?_
  rotate_left 1
  · intro w' hSw
    go_simp <;> with_reducible rfl
  try simp only [List.getElem_toArray, List.getElem_cons_zero, List.getElem_cons_succ, Act.put, List.setIfInBounds_toArray, List.set_cons_zero, List.set_cons_succ]
  refine wpAnyH_ready (rs := [3]) (by kernel_rfl) (by simp) (AllReadyH.cons rfl (fun K hK => ?_) AllReadyH.nil)
  go_simp
  refine hK _ _ (by first | (go_simp; done) | (simp; done)) (fun hS => ?_)
  clear hK K
  try simp only [List.getElem_toArray, List.getElem_cons_zero, List.getElem_cons_succ, Act.put, List.setIfInBounds_toArray, List.set_cons_zero, List.set_cons_succ]
  refine wpAnyH_take (i := 4) (v := ?_) rfl (by kernel_rfl) (by kernel_rfl) (by kernel_rfl) (fun _ _ _ h => h) (Or.inl ⟨by rfl, ?_⟩) hS ?_
  rotate_left 1
  · intro w' hSw
    go_simp <;> with_reducible rfl
  try simp only [List.getElem_toArray, List.getElem_cons_zero, List.getElem_cons_succ, Act.put, List.setIfInBounds_toArray, List.set_cons_zero, List.set_cons_succ]
  refine wpAnyH_ready (rs := [5]) (by kernel_rfl) (by simp) (AllReadyH.cons rfl (fun K hK => ?_) AllReadyH.nil)
  go_simp
  refine hK _ _ (by first | (go_simp; done) | (simp; done)) (fun hS => ?_)
  clear hK K
  try simp only [List.getElem_toArray, List.getElem_cons_zero, List.getElem_cons_succ, Act.put, List.setIfInBounds_toArray, List.set_cons_zero, List.set_cons_succ]
  refine wpAnyH_done (by kernel_rfl) ?_ _
  go_wp2_with ((go_at_call 42; (with_reducible refine (within_any _ _ _ _).mono ?_); rintro e w' ⟨rfl, rfl⟩))
  all_goals
    go_ret
    have h := H.out
    clear H
    refine ⟨?_, ?_⟩
    · show Ending.returned (Value.bool _) = Ending.returned (Value.bool _)
      rw [HR.out]
      congr 2
      first
        | (simp_all [secR, farR, sizeR, inI, iv0]; done)
        | (simp_all [secR, farR, sizeR, inI, iv0]; omega)
        | skip
    · first
        | exact (((Below.refl _ _).alloc (Nat.le_refl _) _).alloc (by simp only [World.size_alloc]; omega) _).drew
        | exact (((Below.refl _ _).alloc (Nat.le_refl _) _).alloc (by simp only [World.size_alloc]; omega) _).drew.alloc (by simp only [World.size_drew, World.size_alloc]; omega) _
        | exact ((((Below.refl _ _).alloc (Nat.le_refl _) _).alloc (by simp only [World.size_alloc]; omega) _).alloc (by simp only [World.size_alloc]; omega) _).drew
        | exact ((Below.refl _ _).alloc (Nat.le_refl _) _).alloc (by simp only [World.size_alloc]; omega) _
        | exact (((Below.refl _ _).alloc (Nat.le_refl _) _).alloc (by simp only [World.size_alloc]; omega) _).alloc (by simp only [World.size_alloc]; omega) _
        | skip
end Go.Proofs.YtjebjninlejoeaaGreatDoor

