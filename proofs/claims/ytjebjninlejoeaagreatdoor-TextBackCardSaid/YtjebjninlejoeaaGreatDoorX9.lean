/- text, the walk: is an instruction right? -/
import Derived.Test.YtjebjninlejoeaaGreatDoorX6
namespace Go.Proofs.YtjebjninlejoeaaGreatDoor
open Go.RowKit Go.Maps Go.ChangeMaps
set_option linter.unusedVariables false
set_option linter.unusedSimpArgs false
set_option linter.unusedSectionVars false
set_option maxRecDepth 100000

set_option maxHeartbeats 4000000 in
theorem right_load (op : Int) (nr : Bool) (d s o m z : Int) (h : op = 14) (w : World) : Calls Tryz.prog 16 #[.agg #[.int .u8 op, .bool nr, .int .i64 d, .int .i64 s, .bool false, .int .i64 o, .int .i64 m, .int .i64 z]] w fun e w' => e = .returned (.bool (rightP ⟨op, nr, d, s, false, o, m, z⟩)) ∧ Below w.heap.size w w' := by
  have hf := fields_any op
  have e0 : fldP op = 181 := by unfold fldP; (repeat' split) <;> omega
  rw [e0] at hf
  have HR : Hid (rightP ⟨op, nr, d, s, false, o, m, z⟩ = (inI d 0 9 && inI s 0 10 && farR (⟨op, nr, d, s, false, o, m, z⟩ : IV) && sizeR (⟨op, nr, d, s, false, o, m, z⟩ : IV) && decide ((⟨op, nr, d, s, false, o, m, z⟩ : IV) = { iv0 14 with dst := d, src := s, off := o, size := z }))) := Lib.hid (by unfold rightP; rw [if_neg (by simp only; omega), if_neg (by simp only; omega), if_pos h])
  have H := Lib.hid h
  clear h
  have hb3 : bits .and .i64 181 3 = 1 := by decide +kernel
  have hb4 : bits .and .i64 181 4 = 4 := by decide +kernel
  have hb8 : bits .and .i64 181 8 = 0 := by decide +kernel
  have hb16 : bits .and .i64 181 16 = 16 := by decide +kernel
  have hb32 : bits .and .i64 181 32 = 32 := by decide +kernel
  have hb64 : bits .and .i64 181 64 = 0 := by decide +kernel
  have hb1 : bits .and .i64 181 1 = 1 := by decide +kernel
  go_enter Tryz.func16, Tryz.ntmps16
  go_wp2_with fail
  (with_reducible refine (hf _).mono ?_)
  rintro _ w1 ⟨rfl, rfl⟩
  clear hf e0
  go_wp2_with (first | (go_at_call 42; (with_reducible refine (within_any _ _ _ _).mono ?_); rintro e w' ⟨rfl, rfl⟩) | (go_at_call 41; (with_reducible refine (sizes_new _ _ _ (by simp [World.setCell])).mono ?_); rintro e w' ⟨rfl, rfl⟩))
  all_goals
    go_ret
    have h := H.out
    clear H
    refine ⟨?_, ?_⟩
    · show Ending.returned (Value.bool _) = Ending.returned (Value.bool _)
      rw [HR.out]
      congr 2
      first
        | (simp_all [secR, farR, sizeR, inI, iv0]; done)
        | (simp_all [secR, farR, sizeR, inI, iv0]; omega)
        | skip
    · first
        | exact ((Below.refl _ _).alloc (Nat.le_refl _) _).alloc (by simp only [World.size_alloc]; omega) _
        | exact (((Below.refl _ _).alloc (Nat.le_refl _) _).alloc (by simp only [World.size_alloc]; omega) _).alloc (by simp only [World.size_alloc]; omega) _
        | skip
set_option maxHeartbeats 4000000 in
theorem right_put (op : Int) (nr : Bool) (d s o m z : Int) (h : op = 15) (w : World) : Calls Tryz.prog 16 #[.agg #[.int .u8 op, .bool nr, .int .i64 d, .int .i64 s, .bool false, .int .i64 o, .int .i64 m, .int .i64 z]] w fun e w' => e = .returned (.bool (rightP ⟨op, nr, d, s, false, o, m, z⟩)) ∧ Below w.heap.size w w' := by
  have hf := fields_any op
  have e0 : fldP op = 186 := by unfold fldP; (repeat' split) <;> omega
  rw [e0] at hf
  have HR : Hid (rightP ⟨op, nr, d, s, false, o, m, z⟩ = (inI d 0 10 && farR (⟨op, nr, d, s, false, o, m, z⟩ : IV) && sizeR (⟨op, nr, d, s, false, o, m, z⟩ : IV) && secR (⟨op, nr, d, s, false, o, m, z⟩ : IV) && !nr)) := Lib.hid (by unfold rightP; rw [if_neg (by simp only; omega), if_neg (by simp only; omega), if_neg (by simp only; omega), if_pos h])
  have H := Lib.hid h
  clear h
  have hb3 : bits .and .i64 186 3 = 2 := by decide +kernel
  have hb4 : bits .and .i64 186 4 = 0 := by decide +kernel
  have hb8 : bits .and .i64 186 8 = 8 := by decide +kernel
  have hb16 : bits .and .i64 186 16 = 16 := by decide +kernel
  have hb32 : bits .and .i64 186 32 = 32 := by decide +kernel
  have hb64 : bits .and .i64 186 64 = 0 := by decide +kernel
  have hb1 : bits .and .i64 186 1 = 0 := by decide +kernel
  go_enter Tryz.func16, Tryz.ntmps16
  go_wp2_with fail
  (with_reducible refine (hf _).mono ?_)
  rintro _ w1 ⟨rfl, rfl⟩
  clear hf e0
  go_wp2_with (first | (go_at_call 42; (with_reducible refine (within_any _ _ _ _).mono ?_); rintro e w' ⟨rfl, rfl⟩) | (go_at_call 41; (with_reducible refine (sizes_new _ _ _ (by simp [World.setCell])).mono ?_); rintro e w' ⟨rfl, rfl⟩))
  all_goals
    go_ret
    have h := H.out
    clear H
    refine ⟨?_, ?_⟩
    · show Ending.returned (Value.bool _) = Ending.returned (Value.bool _)
      rw [HR.out]
      congr 2
      first
        | (simp_all [secR, farR, sizeR, inI, iv0]; done)
        | (simp_all [secR, farR, sizeR, inI, iv0]; omega)
        | skip
    · first
        | exact ((Below.refl _ _).alloc (Nat.le_refl _) _).alloc (by simp only [World.size_alloc]; omega) _
        | exact (((Below.refl _ _).alloc (Nat.le_refl _) _).alloc (by simp only [World.size_alloc]; omega) _).alloc (by simp only [World.size_alloc]; omega) _
        | skip
end Go.Proofs.YtjebjninlejoeaaGreatDoor

