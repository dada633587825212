/- text, the walk: is an instruction right?. text, the walk: is an instruction right?. text, the walk: is an instruction right?. text, the walk: is an instruction right?. text, the walk: is an instruction right?. text, the walk: is an instruction right?. text, the walk: ins.Right tells rightP. -/
import Derived.Test.YtjebjninlejoeaaGreatDoorX5
import Derived.Laws.StructEq
import Derived.RegionTactic
import Derived.ChangeAlike
namespace Go.Proofs.YtjebjninlejoeaaGreatDoor
open Go.RowKit Go.Maps Go.ChangeMaps
set_option linter.unusedVariables false
set_option linter.unusedSimpArgs false
set_option linter.unusedSectionVars false
set_option maxRecDepth 100000

theorem eql_iv (a1 : Int) (a2 : Bool) (a3 a4 : Int) (a5 : Bool) (a6 a7 a8 b1 : Int) (b2 : Bool) (b3 b4 : Int) (b5 : Bool) (b6 b7 b8 : Int) (w : World) :
    (binOp .eql 40 (.agg #[.int .u8 a1, .bool a2, .int .i64 a3, .int .i64 a4, .bool a5, .int .i64 a6, .int .i64 a7, .int .i64 a8]) (.agg #[.int .u8 b1, .bool b2, .int .i64 b3, .int .i64 b4, .bool b5, .int .i64 b6, .int .i64 b7, .int .i64 b8])).run Tryz.prog w = .ok (.bool (decide ((⟨a1, a2, a3, a4, a5, a6, a7, a8⟩ : IV) = ⟨b1, b2, b3, b4, b5, b6, b7, b8⟩))) w := by
  have he : decide ((⟨a1, a2, a3, a4, a5, a6, a7, a8⟩ : IV) = ⟨b1, b2, b3, b4, b5, b6, b7, b8⟩) = ((a1 == b1) && ((a2 == b2) && ((a3 == b3) && ((a4 == b4) && ((a5 == b5) && ((a6 == b6) && ((a7 == b7) && (a8 == b8)))))))) := by
    rw [Bool.eq_iff_iff]
    simp
  rw [he]
  rw [run_eql_struct]
  have h1 : Tryz.prog.underlying 40 = some (.struct (Tryz.prog.fieldsOf 40)) := by kernel_rfl
  have h2 : Tryz.prog.stoodInHeld 40 = false := by kernel_rfl
  rw [run_equalIn_struct w 9999 40 _ _ h1 h2]
  simp [go_sem, Program.fieldsOf, Op.eqFields]
  repeat' split
  all_goals simp_all
theorem within_any (n a b : Int) (w : World) : Calls Tryz.prog 42 #[.int .i64 n, .int .i64 a, .int .i64 b] w fun e w' => e = .returned (.bool (inI n a b)) ∧ w' = w := by
  unfold inI
  by_cases h1 : a ≤ n <;> by_cases h2 : n ≤ b
  all_goals
    go_enter Tryz.func42, Tryz.ntmps42
    go_wp2_with fail
    go_ret
    refine ⟨?_, rfl⟩
    show Ending.returned (Value.bool _) = Ending.returned (Value.bool _)
    first
      | rfl
      | simp [h1, h2]
def fldP (op : Int) : Int := if 1 ≤ op ∧ op ≤ 12 then 201 else if op = 13 then 193 else if op = 14 then 181 else if op = 15 then 186 else if op = 16 then 144 else if 17 ≤ op ∧ op ≤ 27 then 218 else if op = 28 then 128 else 0
theorem fields_any (op : Int) (w : World) : Calls Tryz.prog 40 #[.int .u8 op] w fun e w' => e = .returned (.int .i64 (fldP op)) ∧ w' = w := by
  unfold fldP
  by_cases h1 : 1 ≤ op <;> by_cases h2 : op ≤ 12 <;> by_cases h3 : op = 13 <;> by_cases h4 : op = 14 <;> by_cases h5 : op = 15 <;> by_cases h6 : op = 16 <;> by_cases h7 : 17 ≤ op <;> by_cases h8 : op ≤ 27 <;> by_cases h9 : op = 28
  all_goals first | (exfalso; omega) | skip
  all_goals
    go_enter Tryz.func40, Tryz.ntmps40
    go_wp2_with fail
    go_ret
    refine ⟨?_, rfl⟩
    first
      | rfl
      | simp_all
theorem sizes_any (n : Int) (g c : Nat) (w : World) (h : Bk w g 3 [.int .i64 1, .int .i64 2, .int .i64 4, .int .i64 8]) : Calls Tryz.prog 41 #[.slice (some ⟨g, 0, none⟩) 4 c, .int .i64 n] w fun e w' => e = .returned (.bool (decide (n = 1) || decide (n = 2) || decide (n = 4) || decide (n = 8))) ∧ w' = w := by
  have := Tryz.slices_Contains_int g 0 4 c [1, 2, 4, 8] n w (by decide) (by decide) (fun j hj => by
    rw [Nat.zero_add, h.cell j]
    match j, hj with
    | 0, _ => rfl
    | 1, _ => rfl
    | 2, _ => rfl
    | 3, _ => rfl)
  refine this.mono ?_
  rintro e w' ⟨rfl, rfl⟩
  refine ⟨?_, rfl⟩
  congr 2
  rw [Bool.eq_iff_iff]
  simp [or_assoc]
theorem sizes_new (n : Int) (W : World) (g : Nat) (h : W.heap.size = g) : Calls Tryz.prog 41 #[.slice (some ⟨g, 0, none⟩) 4 4, .int .i64 n] (W.alloc (.cells #[.int .i64 1, .int .i64 2, .int .i64 4, .int .i64 8] 3)) fun e w' => e = .returned (.bool (decide (n = 1) || decide (n = 2) || decide (n = 4) || decide (n = 8))) ∧ w' = W.alloc (.cells #[.int .i64 1, .int .i64 2, .int .i64 4, .int .i64 8] 3) := by
  subst h
  exact sizes_any n W.heap.size 4 _ (Bk.new W _ _)
theorem sizes_newD (n : Int) (W : World) (g : Nat) (h : W.heap.size = g) : Calls Tryz.prog 41 #[.slice (some ⟨g, 0, none⟩) 4 4, .int .i64 n] (W.alloc (.cells #[.int .i64 1, .int .i64 2, .int .i64 4, .int .i64 8] 3)).drew fun e w' => e = .returned (.bool (decide (n = 1) || decide (n = 2) || decide (n = 4) || decide (n = 8))) ∧ w' = (W.alloc (.cells #[.int .i64 1, .int .i64 2, .int .i64 4, .int .i64 8] 3)).drew := by
  subst h
  exact sizes_any n W.heap.size 4 _ (Bk.drew (Bk.new W _ _))
end Go.Proofs.YtjebjninlejoeaaGreatDoor
namespace Go.Proofs.YtjebjninlejoeaaGreatDoor
open Go.RowKit Go.Maps Go.ChangeMaps
set_option linter.unusedVariables false
set_option linter.unusedSimpArgs false
set_option linter.unusedSectionVars false
set_option maxRecDepth 100000

set_option maxHeartbeats 4000000 in
theorem right_alu (op : Int) (nr : Bool) (d s o m z : Int) (h : 1 ≤ op ∧ op ≤ 12) (w : World) : Calls Tryz.prog 16 #[.agg #[.int .u8 op, .bool nr, .int .i64 d, .int .i64 s, .bool false, .int .i64 o, .int .i64 m, .int .i64 z]] w fun e w' => e = .returned (.bool (rightP ⟨op, nr, d, s, false, o, m, z⟩)) ∧ Below w.heap.size w w' := by
  have hf := fields_any op
  have e0 : fldP op = 201 := by unfold fldP; (repeat' split) <;> omega
  rw [e0] at hf
  have HR : Hid (rightP ⟨op, nr, d, s, false, o, m, z⟩ = (inI d 0 9 && secR (⟨op, nr, d, s, false, o, m, z⟩ : IV) && decide (o = 0) && decide (z = 0))) := Lib.hid (by unfold rightP; rw [if_pos h])
  have H := Lib.hid h
  clear h
  have hb3 : bits .and .i64 201 3 = 1 := by decide +kernel
  have hb4 : bits .and .i64 201 4 = 0 := by decide +kernel
  have hb8 : bits .and .i64 201 8 = 8 := by decide +kernel
  have hb16 : bits .and .i64 201 16 = 0 := by decide +kernel
  have hb32 : bits .and .i64 201 32 = 0 := by decide +kernel
  have hb64 : bits .and .i64 201 64 = 64 := by decide +kernel
  have hb1 : bits .and .i64 201 1 = 1 := by decide +kernel
  go_enter Tryz.func16, Tryz.ntmps16
  go_wp2_with fail
  (with_reducible refine (hf _).mono ?_)
  rintro _ w1 ⟨rfl, rfl⟩
  clear hf e0
  go_wp2_with ((go_at_call 42; (with_reducible refine (within_any _ _ _ _).mono ?_); rintro e w' ⟨rfl, rfl⟩))
  all_goals
    go_ret
    have h := H.out
    clear H
    refine ⟨?_, ?_⟩
    · show Ending.returned (Value.bool _) = Ending.returned (Value.bool _)
      rw [HR.out]
      congr 2
      first
        | (simp_all [secR, farR, sizeR, inI, iv0]; done)
        | (simp_all [secR, farR, sizeR, inI, iv0]; omega)
        | skip
    · first
        | exact ((Below.refl _ _).alloc (Nat.le_refl _) _).alloc (by simp) _
        | exact (((Below.refl _ _).alloc (Nat.le_refl _) _).alloc (by simp) _).alloc (by simp) _
        | skip
set_option maxHeartbeats 4000000 in
theorem right_neg (op : Int) (nr : Bool) (d s o m z : Int) (h : op = 13) (w : World) : Calls Tryz.prog 16 #[.agg #[.int .u8 op, .bool nr, .int .i64 d, .int .i64 s, .bool false, .int .i64 o, .int .i64 m, .int .i64 z]] w fun e w' => e = .returned (.bool (rightP ⟨op, nr, d, s, false, o, m, z⟩)) ∧ Below w.heap.size w w' := by
  have hf := fields_any op
  have e0 : fldP op = 193 := by unfold fldP; (repeat' split) <;> omega
  rw [e0] at hf
  have HR : Hid (rightP ⟨op, nr, d, s, false, o, m, z⟩ = (inI d 0 9 && decide ((⟨op, nr, d, s, false, o, m, z⟩ : IV) = { iv0 13 with narrow := nr, dst := d }))) := Lib.hid (by unfold rightP; rw [if_neg (by simp only; omega), if_pos h])
  have H := Lib.hid h
  clear h
  have hb3 : bits .and .i64 193 3 = 1 := by decide +kernel
  have hb4 : bits .and .i64 193 4 = 0 := by decide +kernel
  have hb8 : bits .and .i64 193 8 = 0 := by decide +kernel
  have hb16 : bits .and .i64 193 16 = 0 := by decide +kernel
  have hb32 : bits .and .i64 193 32 = 0 := by decide +kernel
  have hb64 : bits .and .i64 193 64 = 64 := by decide +kernel
  have hb1 : bits .and .i64 193 1 = 1 := by decide +kernel
  go_enter Tryz.func16, Tryz.ntmps16
  go_wp2_with fail
  (with_reducible refine (hf _).mono ?_)
  rintro _ w1 ⟨rfl, rfl⟩
  clear hf e0
  go_wp2_with ((go_at_call 42; (with_reducible refine (within_any _ _ _ _).mono ?_); rintro e w' ⟨rfl, rfl⟩))
  all_goals
    go_ret
    have h := H.out
    clear H
    refine ⟨?_, ?_⟩
    · show Ending.returned (Value.bool _) = Ending.returned (Value.bool _)
      rw [HR.out]
      congr 2
      first
        | (simp_all [secR, farR, sizeR, inI, iv0]; done)
        | (simp_all [secR, farR, sizeR, inI, iv0]; omega)
        | skip
    · first
        | exact ((Below.refl _ _).alloc (Nat.le_refl _) _).alloc (by simp) _
        | exact (((Below.refl _ _).alloc (Nat.le_refl _) _).alloc (by simp) _).alloc (by simp) _
        | skip
set_option maxHeartbeats 4000000 in
theorem right_jump (op : Int) (nr : Bool) (d s o m z : Int) (h : op = 16) (w : World) : Calls Tryz.prog 16 #[.agg #[.int .u8 op, .bool nr, .int .i64 d, .int .i64 s, .bool false, .int .i64 o, .int .i64 m, .int .i64 z]] w fun e w' => e = .returned (.bool (rightP ⟨op, nr, d, s, false, o, m, z⟩)) ∧ Below w.heap.size w w' := by
  have hf := fields_any op
  have e0 : fldP op = 144 := by unfold fldP; (repeat' split) <;> omega
  rw [e0] at hf
  have HR : Hid (rightP ⟨op, nr, d, s, false, o, m, z⟩ = (farR (⟨op, nr, d, s, false, o, m, z⟩ : IV) && decide ((⟨op, nr, d, s, false, o, m, z⟩ : IV) = { iv0 16 with off := o }))) := Lib.hid (by unfold rightP; rw [if_neg (by simp only; omega), if_neg (by simp only; omega), if_neg (by simp only; omega), if_neg (by simp only; omega), if_pos h])
  have H := Lib.hid h
  clear h
  have hb3 : bits .and .i64 144 3 = 0 := by decide +kernel
  have hb4 : bits .and .i64 144 4 = 0 := by decide +kernel
  have hb8 : bits .and .i64 144 8 = 0 := by decide +kernel
  have hb16 : bits .and .i64 144 16 = 16 := by decide +kernel
  have hb32 : bits .and .i64 144 32 = 0 := by decide +kernel
  have hb64 : bits .and .i64 144 64 = 0 := by decide +kernel
  have hb1 : bits .and .i64 144 1 = 0 := by decide +kernel
  go_enter Tryz.func16, Tryz.ntmps16
  go_wp2_with fail
  (with_reducible refine (hf _).mono ?_)
  rintro _ w1 ⟨rfl, rfl⟩
  clear hf e0
  go_wp2_with ((go_at_call 42; (with_reducible refine (within_any _ _ _ _).mono ?_); rintro e w' ⟨rfl, rfl⟩))
  all_goals
    go_ret
    have h := H.out
    clear H
    refine ⟨?_, ?_⟩
    · show Ending.returned (Value.bool _) = Ending.returned (Value.bool _)
      rw [HR.out]
      congr 2
      first
        | (simp_all [secR, farR, sizeR, inI, iv0]; done)
        | (simp_all [secR, farR, sizeR, inI, iv0]; omega)
        | skip
    · first
        | exact ((Below.refl _ _).alloc (Nat.le_refl _) _).alloc (by simp) _
        | exact (((Below.refl _ _).alloc (Nat.le_refl _) _).alloc (by simp) _).alloc (by simp) _
        | skip
set_option maxHeartbeats 4000000 in
theorem right_exit (op : Int) (nr : Bool) (d s o m z : Int) (h : op = 28) (w : World) : Calls Tryz.prog 16 #[.agg #[.int .u8 op, .bool nr, .int .i64 d, .int .i64 s, .bool false, .int .i64 o, .int .i64 m, .int .i64 z]] w fun e w' => e = .returned (.bool (rightP ⟨op, nr, d, s, false, o, m, z⟩)) ∧ Below w.heap.size w w' := by
  have hf := fields_any op
  have e0 : fldP op = 128 := by unfold fldP; (repeat' split) <;> omega
  rw [e0] at hf
  have HR : Hid (rightP ⟨op, nr, d, s, false, o, m, z⟩ = (decide ((⟨op, nr, d, s, false, o, m, z⟩ : IV) = iv0 28))) := Lib.hid (by unfold rightP; rw [if_neg (by simp only; omega), if_neg (by simp only; omega), if_neg (by simp only; omega), if_neg (by simp only; omega), if_neg (by simp only; omega), if_neg (by simp only; omega)])
  have H := Lib.hid h
  clear h
  have hb3 : bits .and .i64 128 3 = 0 := by decide +kernel
  have hb4 : bits .and .i64 128 4 = 0 := by decide +kernel
  have hb8 : bits .and .i64 128 8 = 0 := by decide +kernel
  have hb16 : bits .and .i64 128 16 = 0 := by decide +kernel
  have hb32 : bits .and .i64 128 32 = 0 := by decide +kernel
  have hb64 : bits .and .i64 128 64 = 0 := by decide +kernel
  have hb1 : bits .and .i64 128 1 = 0 := by decide +kernel
  go_enter Tryz.func16, Tryz.ntmps16
  go_wp2_with fail
  (with_reducible refine (hf _).mono ?_)
  rintro _ w1 ⟨rfl, rfl⟩
  clear hf e0
  go_wp2_with ((go_at_call 42; (with_reducible refine (within_any _ _ _ _).mono ?_); rintro e w' ⟨rfl, rfl⟩))
  all_goals
    go_ret
    have h := H.out
    clear H
    refine ⟨?_, ?_⟩
    · show Ending.returned (Value.bool _) = Ending.returned (Value.bool _)
      rw [HR.out]
      congr 2
      first
        | (simp_all [secR, farR, sizeR, inI, iv0]; done)
        | (simp_all [secR, farR, sizeR, inI, iv0]; omega)
        | skip
    · first
        | exact ((Below.refl _ _).alloc (Nat.le_refl _) _).alloc (by simp) _
        | exact (((Below.refl _ _).alloc (Nat.le_refl _) _).alloc (by simp) _).alloc (by simp) _
        | skip
set_option maxHeartbeats 4000000 in
theorem right_no (op : Int) (nr : Bool) (d s o m z : Int) (h : ¬ (1 ≤ op ∧ op ≤ 28)) (w : World) : Calls Tryz.prog 16 #[.agg #[.int .u8 op, .bool nr, .int .i64 d, .int .i64 s, .bool false, .int .i64 o, .int .i64 m, .int .i64 z]] w fun e w' => e = .returned (.bool (rightP ⟨op, nr, d, s, false, o, m, z⟩)) ∧ Below w.heap.size w w' := by
  have hf := fields_any op
  have e0 : fldP op = 0 := by unfold fldP; (repeat' split) <;> omega
  rw [e0] at hf
  have HR : Hid (rightP ⟨op, nr, d, s, false, o, m, z⟩ = (decide ((⟨op, nr, d, s, false, o, m, z⟩ : IV) = iv0 28))) := Lib.hid (by unfold rightP; rw [if_neg (by simp only; omega), if_neg (by simp only; omega), if_neg (by simp only; omega), if_neg (by simp only; omega), if_neg (by simp only; omega), if_neg (by simp only; omega)])
  have H := Lib.hid h
  clear h
  have hb3 : bits .and .i64 0 3 = 0 := by decide +kernel
  have hb4 : bits .and .i64 0 4 = 0 := by decide +kernel
  have hb8 : bits .and .i64 0 8 = 0 := by decide +kernel
  have hb16 : bits .and .i64 0 16 = 0 := by decide +kernel
  have hb32 : bits .and .i64 0 32 = 0 := by decide +kernel
  have hb64 : bits .and .i64 0 64 = 0 := by decide +kernel
  have hb1 : bits .and .i64 0 1 = 0 := by decide +kernel
  go_enter Tryz.func16, Tryz.ntmps16
  go_wp2_with fail
  (with_reducible refine (hf _).mono ?_)
  rintro _ w1 ⟨rfl, rfl⟩
  clear hf e0
  go_wp2_with ((go_at_call 42; (with_reducible refine (within_any _ _ _ _).mono ?_); rintro e w' ⟨rfl, rfl⟩))
  all_goals
    go_ret
    have h := H.out
    clear H
    refine ⟨?_, ?_⟩
    · show Ending.returned (Value.bool _) = Ending.returned (Value.bool _)
      rw [HR.out]
      congr 2
      first
        | (simp_all [secR, farR, sizeR, inI, iv0]; done)
        | (simp_all [secR, farR, sizeR, inI, iv0]; omega)
        | skip
    · first
        | exact ((Below.refl _ _).alloc (Nat.le_refl _) _).alloc (by simp) _
        | exact (((Below.refl _ _).alloc (Nat.le_refl _) _).alloc (by simp) _).alloc (by simp) _
        | skip
end Go.Proofs.YtjebjninlejoeaaGreatDoor
namespace Go.Proofs.YtjebjninlejoeaaGreatDoor
open Go.RowKit Go.Maps Go.ChangeMaps
set_option linter.unusedVariables false
set_option linter.unusedSimpArgs false
set_option linter.unusedSectionVars false
set_option maxRecDepth 100000

set_option maxHeartbeats 4000000 in
theorem right_ask (op : Int) (nr : Bool) (d s o m z : Int) (h : 17 ≤ op ∧ op ≤ 27) (w : World) : Calls Tryz.prog 16 #[.agg #[.int .u8 op, .bool nr, .int .i64 d, .int .i64 s, .bool false, .int .i64 o, .int .i64 m, .int .i64 z]] w fun e w' => e = .returned (.bool (rightP ⟨op, nr, d, s, false, o, m, z⟩)) ∧ Below w.heap.size w w' := by
  have hf := fields_any op
  have e0 : fldP op = 218 := by unfold fldP; (repeat' split) <;> omega
  rw [e0] at hf
  have HR : Hid (rightP ⟨op, nr, d, s, false, o, m, z⟩ = (inI d 0 10 && farR (⟨op, nr, d, s, false, o, m, z⟩ : IV) && secR (⟨op, nr, d, s, false, o, m, z⟩ : IV) && decide (z = 0))) := Lib.hid (by unfold rightP; rw [if_neg (by simp only; omega), if_neg (by simp only; omega), if_neg (by simp only; omega), if_neg (by simp only; omega), if_neg (by simp only; omega), if_pos h])
  have H := Lib.hid h
  clear h
  have hb3 : bits .and .i64 218 3 = 2 := by decide +kernel
  have hb4 : bits .and .i64 218 4 = 0 := by decide +kernel
  have hb8 : bits .and .i64 218 8 = 8 := by decide +kernel
  have hb16 : bits .and .i64 218 16 = 16 := by decide +kernel
  have hb32 : bits .and .i64 218 32 = 0 := by decide +kernel
  have hb64 : bits .and .i64 218 64 = 64 := by decide +kernel
  have hb1 : bits .and .i64 218 1 = 0 := by decide +kernel
  go_enter Tryz.func16, Tryz.ntmps16
  go_wp2_with fail
  (with_reducible refine (hf _).mono ?_)
  rintro _ w1 ⟨rfl, rfl⟩
  clear hf e0
  go_wp2_with ((go_at_call 42; (with_reducible refine (within_any _ _ _ _).mono ?_); rintro e w' ⟨rfl, rfl⟩))
  all_goals
    go_ret
    have h := H.out
    clear H
    refine ⟨?_, ?_⟩
    · show Ending.returned (Value.bool _) = Ending.returned (Value.bool _)
      rw [HR.out]
      congr 2
      first
        | (simp_all [secR, farR, sizeR, inI, iv0]; done)
        | (simp_all [secR, farR, sizeR, inI, iv0]; omega)
        | skip
    · first
        | exact ((Below.refl _ _).alloc (Nat.le_refl _) _).alloc (by simp) _
        | exact (((Below.refl _ _).alloc (Nat.le_refl _) _).alloc (by simp) _).alloc (by simp) _
        | skip
end Go.Proofs.YtjebjninlejoeaaGreatDoor
namespace Go.Proofs.YtjebjninlejoeaaGreatDoor
open Go.RowKit Go.Maps Go.ChangeMaps
set_option linter.unusedVariables false
set_option linter.unusedSimpArgs false
set_option linter.unusedSectionVars false
set_option maxRecDepth 100000

set_option maxHeartbeats 4000000 in
theorem right_load (op : Int) (nr : Bool) (d s o m z : Int) (h : op = 14) (w : World) : Calls Tryz.prog 16 #[.agg #[.int .u8 op, .bool nr, .int .i64 d, .int .i64 s, .bool false, .int .i64 o, .int .i64 m, .int .i64 z]] w fun e w' => e = .returned (.bool (rightP ⟨op, nr, d, s, false, o, m, z⟩)) ∧ Below w.heap.size w w' := by
  have hf := fields_any op
  have e0 : fldP op = 181 := by unfold fldP; (repeat' split) <;> omega
  rw [e0] at hf
  have HR : Hid (rightP ⟨op, nr, d, s, false, o, m, z⟩ = (inI d 0 9 && inI s 0 10 && farR (⟨op, nr, d, s, false, o, m, z⟩ : IV) && sizeR (⟨op, nr, d, s, false, o, m, z⟩ : IV) && decide ((⟨op, nr, d, s, false, o, m, z⟩ : IV) = { iv0 14 with dst := d, src := s, off := o, size := z }))) := Lib.hid (by unfold rightP; rw [if_neg (by simp only; omega), if_neg (by simp only; omega), if_pos h])
  have H := Lib.hid h
  clear h
  have hb3 : bits .and .i64 181 3 = 1 := by decide +kernel
  have hb4 : bits .and .i64 181 4 = 4 := by decide +kernel
  have hb8 : bits .and .i64 181 8 = 0 := by decide +kernel
  have hb16 : bits .and .i64 181 16 = 16 := by decide +kernel
  have hb32 : bits .and .i64 181 32 = 32 := by decide +kernel
  have hb64 : bits .and .i64 181 64 = 0 := by decide +kernel
  have hb1 : bits .and .i64 181 1 = 1 := by decide +kernel
  go_enter Tryz.func16, Tryz.ntmps16
  go_wp2_with fail
  (with_reducible refine (hf _).mono ?_)
  rintro _ w1 ⟨rfl, rfl⟩
  clear hf e0
  go_wp2_with (first | (go_at_call 42; (with_reducible refine (within_any _ _ _ _).mono ?_); rintro e w' ⟨rfl, rfl⟩) | (go_at_call 41; (with_reducible refine (sizes_new _ _ _ (by simp [World.setCell])).mono ?_); rintro e w' ⟨rfl, rfl⟩))
  all_goals
    go_ret
    have h := H.out
    clear H
    refine ⟨?_, ?_⟩
    · show Ending.returned (Value.bool _) = Ending.returned (Value.bool _)
      rw [HR.out]
      congr 2
      first
        | (simp_all [secR, farR, sizeR, inI, iv0]; done)
        | (simp_all [secR, farR, sizeR, inI, iv0]; omega)
        | skip
    · first
        | exact ((Below.refl _ _).alloc (Nat.le_refl _) _).alloc (by simp only [World.size_alloc]; omega) _
        | exact (((Below.refl _ _).alloc (Nat.le_refl _) _).alloc (by simp only [World.size_alloc]; omega) _).alloc (by simp only [World.size_alloc]; omega) _
        | skip
set_option maxHeartbeats 4000000 in
theorem right_put (op : Int) (nr : Bool) (d s o m z : Int) (h : op = 15) (w : World) : Calls Tryz.prog 16 #[.agg #[.int .u8 op, .bool nr, .int .i64 d, .int .i64 s, .bool false, .int .i64 o, .int .i64 m, .int .i64 z]] w fun e w' => e = .returned (.bool (rightP ⟨op, nr, d, s, false, o, m, z⟩)) ∧ Below w.heap.size w w' := by
  have hf := fields_any op
  have e0 : fldP op = 186 := by unfold fldP; (repeat' split) <;> omega
  rw [e0] at hf
  have HR : Hid (rightP ⟨op, nr, d, s, false, o, m, z⟩ = (inI d 0 10 && farR (⟨op, nr, d, s, false, o, m, z⟩ : IV) && sizeR (⟨op, nr, d, s, false, o, m, z⟩ : IV) && secR (⟨op, nr, d, s, false, o, m, z⟩ : IV) && !nr)) := Lib.hid (by unfold rightP; rw [if_neg (by simp only; omega), if_neg (by simp only; omega), if_neg (by simp only; omega), if_pos h])
  have H := Lib.hid h
  clear h
  have hb3 : bits .and .i64 186 3 = 2 := by decide +kernel
  have hb4 : bits .and .i64 186 4 = 0 := by decide +kernel
  have hb8 : bits .and .i64 186 8 = 8 := by decide +kernel
  have hb16 : bits .and .i64 186 16 = 16 := by decide +kernel
  have hb32 : bits .and .i64 186 32 = 32 := by decide +kernel
  have hb64 : bits .and .i64 186 64 = 0 := by decide +kernel
  have hb1 : bits .and .i64 186 1 = 0 := by decide +kernel
  go_enter Tryz.func16, Tryz.ntmps16
  go_wp2_with fail
  (with_reducible refine (hf _).mono ?_)
  rintro _ w1 ⟨rfl, rfl⟩
  clear hf e0
  go_wp2_with (first | (go_at_call 42; (with_reducible refine (within_any _ _ _ _).mono ?_); rintro e w' ⟨rfl, rfl⟩) | (go_at_call 41; (with_reducible refine (sizes_new _ _ _ (by simp [World.setCell])).mono ?_); rintro e w' ⟨rfl, rfl⟩))
  all_goals
    go_ret
    have h := H.out
    clear H
    refine ⟨?_, ?_⟩
    · show Ending.returned (Value.bool _) = Ending.returned (Value.bool _)
      rw [HR.out]
      congr 2
      first
        | (simp_all [secR, farR, sizeR, inI, iv0]; done)
        | (simp_all [secR, farR, sizeR, inI, iv0]; omega)
        | skip
    · first
        | exact ((Below.refl _ _).alloc (Nat.le_refl _) _).alloc (by simp only [World.size_alloc]; omega) _
        | exact (((Below.refl _ _).alloc (Nat.le_refl _) _).alloc (by simp only [World.size_alloc]; omega) _).alloc (by simp only [World.size_alloc]; omega) _
        | skip
end Go.Proofs.YtjebjninlejoeaaGreatDoor
namespace Go.Proofs.YtjebjninlejoeaaGreatDoor
open Go.RowKit Go.Maps Go.ChangeMaps
set_option linter.unusedVariables false
set_option linter.unusedSimpArgs false
set_option linter.unusedSectionVars false
set_option maxRecDepth 100000

set_option maxHeartbeats 4000000 in
theorem right_negI (op : Int) (nr : Bool) (d s o m z : Int) (h : op = 13) (w : World) : Calls Tryz.prog 16 #[.agg #[.int .u8 op, .bool nr, .int .i64 d, .int .i64 s, .bool true, .int .i64 o, .int .i64 m, .int .i64 z]] w fun e w' => e = .returned (.bool (rightP ⟨op, nr, d, s, true, o, m, z⟩)) ∧ Below w.heap.size w w' := by
  have hf := fields_any op
  have e0 : fldP op = 193 := by unfold fldP; (repeat' split) <;> omega
  rw [e0] at hf
  have HR : Hid (rightP ⟨op, nr, d, s, true, o, m, z⟩ = (inI d 0 9 && decide ((⟨op, nr, d, s, true, o, m, z⟩ : IV) = { iv0 13 with narrow := nr, dst := d }))) := Lib.hid (by unfold rightP; rw [if_neg (by simp only; omega), if_pos h])
  have H := Lib.hid h
  clear h
  have hb3 : bits .and .i64 193 3 = 1 := by decide +kernel
  have hb4 : bits .and .i64 193 4 = 0 := by decide +kernel
  have hb8 : bits .and .i64 193 8 = 0 := by decide +kernel
  have hb16 : bits .and .i64 193 16 = 0 := by decide +kernel
  have hb32 : bits .and .i64 193 32 = 0 := by decide +kernel
  have hb64 : bits .and .i64 193 64 = 64 := by decide +kernel
  have hb1 : bits .and .i64 193 1 = 1 := by decide +kernel
  go_enter Tryz.func16, Tryz.ntmps16
  go_wp2_with fail
  (with_reducible refine (hf _).mono ?_)
  rintro _ w1 ⟨rfl, rfl⟩
  clear hf e0
  go_wp2_with ((go_at_call 42; (with_reducible refine (within_any _ _ _ _).mono ?_); rintro e w' ⟨rfl, rfl⟩))
  all_goals
    go_ret
    have h := H.out
    clear H
    refine ⟨?_, ?_⟩
    · show Ending.returned (Value.bool _) = Ending.returned (Value.bool _)
      rw [HR.out]
      congr 2
      first
        | (simp_all [secR, farR, sizeR, inI, iv0]; done)
        | (simp_all [secR, farR, sizeR, inI, iv0]; omega)
        | skip
    · first
        | exact ((Below.refl _ _).alloc (Nat.le_refl _) _).alloc (by simp only [World.size_alloc]; omega) _
        | exact (((Below.refl _ _).alloc (Nat.le_refl _) _).alloc (by simp only [World.size_alloc]; omega) _).alloc (by simp only [World.size_alloc]; omega) _
        | skip
set_option maxHeartbeats 4000000 in
theorem right_loadI (op : Int) (nr : Bool) (d s o m z : Int) (h : op = 14) (w : World) : Calls Tryz.prog 16 #[.agg #[.int .u8 op, .bool nr, .int .i64 d, .int .i64 s, .bool true, .int .i64 o, .int .i64 m, .int .i64 z]] w fun e w' => e = .returned (.bool (rightP ⟨op, nr, d, s, true, o, m, z⟩)) ∧ Below w.heap.size w w' := by
  have hf := fields_any op
  have e0 : fldP op = 181 := by unfold fldP; (repeat' split) <;> omega
  rw [e0] at hf
  have HR : Hid (rightP ⟨op, nr, d, s, true, o, m, z⟩ = (inI d 0 9 && inI s 0 10 && farR (⟨op, nr, d, s, true, o, m, z⟩ : IV) && sizeR (⟨op, nr, d, s, true, o, m, z⟩ : IV) && decide ((⟨op, nr, d, s, true, o, m, z⟩ : IV) = { iv0 14 with dst := d, src := s, off := o, size := z }))) := Lib.hid (by unfold rightP; rw [if_neg (by simp only; omega), if_neg (by simp only; omega), if_pos h])
  have H := Lib.hid h
  clear h
  have hb3 : bits .and .i64 181 3 = 1 := by decide +kernel
  have hb4 : bits .and .i64 181 4 = 4 := by decide +kernel
  have hb8 : bits .and .i64 181 8 = 0 := by decide +kernel
  have hb16 : bits .and .i64 181 16 = 16 := by decide +kernel
  have hb32 : bits .and .i64 181 32 = 32 := by decide +kernel
  have hb64 : bits .and .i64 181 64 = 0 := by decide +kernel
  have hb1 : bits .and .i64 181 1 = 1 := by decide +kernel
  go_enter Tryz.func16, Tryz.ntmps16
  go_wp2_with fail
  (with_reducible refine (hf _).mono ?_)
  rintro _ w1 ⟨rfl, rfl⟩
  clear hf e0
  go_wp2_with (first | (go_at_call 42; (with_reducible refine (within_any _ _ _ _).mono ?_); rintro e w' ⟨rfl, rfl⟩) | (go_at_call 41; (with_reducible refine (sizes_new _ _ _ (by simp [World.setCell])).mono ?_); rintro e w' ⟨rfl, rfl⟩))
  all_goals
    go_ret
    have h := H.out
    clear H
    refine ⟨?_, ?_⟩
    · show Ending.returned (Value.bool _) = Ending.returned (Value.bool _)
      rw [HR.out]
      congr 2
      first
        | (simp_all [secR, farR, sizeR, inI, iv0]; done)
        | (simp_all [secR, farR, sizeR, inI, iv0]; omega)
        | skip
    · first
        | exact ((Below.refl _ _).alloc (Nat.le_refl _) _).alloc (by simp only [World.size_alloc]; omega) _
        | exact (((Below.refl _ _).alloc (Nat.le_refl _) _).alloc (by simp only [World.size_alloc]; omega) _).alloc (by simp only [World.size_alloc]; omega) _
        | skip
set_option maxHeartbeats 4000000 in
theorem right_jumpI (op : Int) (nr : Bool) (d s o m z : Int) (h : op = 16) (w : World) : Calls Tryz.prog 16 #[.agg #[.int .u8 op, .bool nr, .int .i64 d, .int .i64 s, .bool true, .int .i64 o, .int .i64 m, .int .i64 z]] w fun e w' => e = .returned (.bool (rightP ⟨op, nr, d, s, true, o, m, z⟩)) ∧ Below w.heap.size w w' := by
  have hf := fields_any op
  have e0 : fldP op = 144 := by unfold fldP; (repeat' split) <;> omega
  rw [e0] at hf
  have HR : Hid (rightP ⟨op, nr, d, s, true, o, m, z⟩ = (farR (⟨op, nr, d, s, true, o, m, z⟩ : IV) && decide ((⟨op, nr, d, s, true, o, m, z⟩ : IV) = { iv0 16 with off := o }))) := Lib.hid (by unfold rightP; rw [if_neg (by simp only; omega), if_neg (by simp only; omega), if_neg (by simp only; omega), if_neg (by simp only; omega), if_pos h])
  have H := Lib.hid h
  clear h
  have hb3 : bits .and .i64 144 3 = 0 := by decide +kernel
  have hb4 : bits .and .i64 144 4 = 0 := by decide +kernel
  have hb8 : bits .and .i64 144 8 = 0 := by decide +kernel
  have hb16 : bits .and .i64 144 16 = 16 := by decide +kernel
  have hb32 : bits .and .i64 144 32 = 0 := by decide +kernel
  have hb64 : bits .and .i64 144 64 = 0 := by decide +kernel
  have hb1 : bits .and .i64 144 1 = 0 := by decide +kernel
  go_enter Tryz.func16, Tryz.ntmps16
  go_wp2_with fail
  (with_reducible refine (hf _).mono ?_)
  rintro _ w1 ⟨rfl, rfl⟩
  clear hf e0
  go_wp2_with ((go_at_call 42; (with_reducible refine (within_any _ _ _ _).mono ?_); rintro e w' ⟨rfl, rfl⟩))
  all_goals
    go_ret
    have h := H.out
    clear H
    refine ⟨?_, ?_⟩
    · show Ending.returned (Value.bool _) = Ending.returned (Value.bool _)
      rw [HR.out]
      congr 2
      first
        | (simp_all [secR, farR, sizeR, inI, iv0]; done)
        | (simp_all [secR, farR, sizeR, inI, iv0]; omega)
        | skip
    · first
        | exact ((Below.refl _ _).alloc (Nat.le_refl _) _).alloc (by simp only [World.size_alloc]; omega) _
        | exact (((Below.refl _ _).alloc (Nat.le_refl _) _).alloc (by simp only [World.size_alloc]; omega) _).alloc (by simp only [World.size_alloc]; omega) _
        | skip
set_option maxHeartbeats 4000000 in
theorem right_exitI (op : Int) (nr : Bool) (d s o m z : Int) (h : op = 28) (w : World) : Calls Tryz.prog 16 #[.agg #[.int .u8 op, .bool nr, .int .i64 d, .int .i64 s, .bool true, .int .i64 o, .int .i64 m, .int .i64 z]] w fun e w' => e = .returned (.bool (rightP ⟨op, nr, d, s, true, o, m, z⟩)) ∧ Below w.heap.size w w' := by
  have hf := fields_any op
  have e0 : fldP op = 128 := by unfold fldP; (repeat' split) <;> omega
  rw [e0] at hf
  have HR : Hid (rightP ⟨op, nr, d, s, true, o, m, z⟩ = (decide ((⟨op, nr, d, s, true, o, m, z⟩ : IV) = iv0 28))) := Lib.hid (by unfold rightP; rw [if_neg (by simp only; omega), if_neg (by simp only; omega), if_neg (by simp only; omega), if_neg (by simp only; omega), if_neg (by simp only; omega), if_neg (by simp only; omega)])
  have H := Lib.hid h
  clear h
  have hb3 : bits .and .i64 128 3 = 0 := by decide +kernel
  have hb4 : bits .and .i64 128 4 = 0 := by decide +kernel
  have hb8 : bits .and .i64 128 8 = 0 := by decide +kernel
  have hb16 : bits .and .i64 128 16 = 0 := by decide +kernel
  have hb32 : bits .and .i64 128 32 = 0 := by decide +kernel
  have hb64 : bits .and .i64 128 64 = 0 := by decide +kernel
  have hb1 : bits .and .i64 128 1 = 0 := by decide +kernel
  go_enter Tryz.func16, Tryz.ntmps16
  go_wp2_with fail
  (with_reducible refine (hf _).mono ?_)
  rintro _ w1 ⟨rfl, rfl⟩
  clear hf e0
  go_wp2_with ((go_at_call 42; (with_reducible refine (within_any _ _ _ _).mono ?_); rintro e w' ⟨rfl, rfl⟩))
  all_goals
    go_ret
    have h := H.out
    clear H
    refine ⟨?_, ?_⟩
    · show Ending.returned (Value.bool _) = Ending.returned (Value.bool _)
      rw [HR.out]
      congr 2
      first
        | (simp_all [secR, farR, sizeR, inI, iv0]; done)
        | (simp_all [secR, farR, sizeR, inI, iv0]; omega)
        | skip
    · first
        | exact ((Below.refl _ _).alloc (Nat.le_refl _) _).alloc (by simp only [World.size_alloc]; omega) _
        | exact (((Below.refl _ _).alloc (Nat.le_refl _) _).alloc (by simp only [World.size_alloc]; omega) _).alloc (by simp only [World.size_alloc]; omega) _
        | skip
set_option maxHeartbeats 4000000 in
theorem right_noI (op : Int) (nr : Bool) (d s o m z : Int) (h : ¬ (1 ≤ op ∧ op ≤ 28)) (w : World) : Calls Tryz.prog 16 #[.agg #[.int .u8 op, .bool nr, .int .i64 d, .int .i64 s, .bool true, .int .i64 o, .int .i64 m, .int .i64 z]] w fun e w' => e = .returned (.bool (rightP ⟨op, nr, d, s, true, o, m, z⟩)) ∧ Below w.heap.size w w' := by
  have hf := fields_any op
  have e0 : fldP op = 0 := by unfold fldP; (repeat' split) <;> omega
  rw [e0] at hf
  have HR : Hid (rightP ⟨op, nr, d, s, true, o, m, z⟩ = (decide ((⟨op, nr, d, s, true, o, m, z⟩ : IV) = iv0 28))) := Lib.hid (by unfold rightP; rw [if_neg (by simp only; omega), if_neg (by simp only; omega), if_neg (by simp only; omega), if_neg (by simp only; omega), if_neg (by simp only; omega), if_neg (by simp only; omega)])
  have H := Lib.hid h
  clear h
  have hb3 : bits .and .i64 0 3 = 0 := by decide +kernel
  have hb4 : bits .and .i64 0 4 = 0 := by decide +kernel
  have hb8 : bits .and .i64 0 8 = 0 := by decide +kernel
  have hb16 : bits .and .i64 0 16 = 0 := by decide +kernel
  have hb32 : bits .and .i64 0 32 = 0 := by decide +kernel
  have hb64 : bits .and .i64 0 64 = 0 := by decide +kernel
  have hb1 : bits .and .i64 0 1 = 0 := by decide +kernel
  go_enter Tryz.func16, Tryz.ntmps16
  go_wp2_with fail
  (with_reducible refine (hf _).mono ?_)
  rintro _ w1 ⟨rfl, rfl⟩
  clear hf e0
  go_wp2_with ((go_at_call 42; (with_reducible refine (within_any _ _ _ _).mono ?_); rintro e w' ⟨rfl, rfl⟩))
  all_goals
    go_ret
    have h := H.out
    clear H
    refine ⟨?_, ?_⟩
    · show Ending.returned (Value.bool _) = Ending.returned (Value.bool _)
      rw [HR.out]
      congr 2
      first
        | (simp_all [secR, farR, sizeR, inI, iv0]; done)
        | (simp_all [secR, farR, sizeR, inI, iv0]; omega)
        | skip
    · first
        | exact ((Below.refl _ _).alloc (Nat.le_refl _) _).alloc (by simp only [World.size_alloc]; omega) _
        | exact (((Below.refl _ _).alloc (Nat.le_refl _) _).alloc (by simp only [World.size_alloc]; omega) _).alloc (by simp only [World.size_alloc]; omega) _
        | skip
end Go.Proofs.YtjebjninlejoeaaGreatDoor
namespace Go.Proofs.YtjebjninlejoeaaGreatDoor
open Go.RowKit Go.Maps Go.ChangeMaps
set_option linter.unusedVariables false
set_option linter.unusedSimpArgs false
set_option linter.unusedSectionVars false
set_option maxRecDepth 100000

set_option maxHeartbeats 4000000 in
theorem right_aluI (op : Int) (nr : Bool) (d s o m z : Int) (h : 1 ≤ op ∧ op ≤ 12) (w : World) : Calls Tryz.prog 16 #[.agg #[.int .u8 op, .bool nr, .int .i64 d, .int .i64 s, .bool true, .int .i64 o, .int .i64 m, .int .i64 z]] w fun e w' => e = .returned (.bool (rightP ⟨op, nr, d, s, true, o, m, z⟩)) ∧ Below w.heap.size w w' := by
  have hf := fields_any op
  have e0 : fldP op = 201 := by unfold fldP; (repeat' split) <;> omega
  rw [e0] at hf
  have HR : Hid (rightP ⟨op, nr, d, s, true, o, m, z⟩ = (inI d 0 9 && secR (⟨op, nr, d, s, true, o, m, z⟩ : IV) && decide (o = 0) && decide (z = 0))) := Lib.hid (by unfold rightP; rw [if_pos h])
  have H := Lib.hid h
  clear h
  have hb3 : bits .and .i64 201 3 = 1 := by decide +kernel
  have hb4 : bits .and .i64 201 4 = 0 := by decide +kernel
  have hb8 : bits .and .i64 201 8 = 8 := by decide +kernel
  have hb16 : bits .and .i64 201 16 = 0 := by decide +kernel
  have hb32 : bits .and .i64 201 32 = 0 := by decide +kernel
  have hb64 : bits .and .i64 201 64 = 64 := by decide +kernel
  have hb1 : bits .and .i64 201 1 = 1 := by decide +kernel
  go_enter Tryz.func16, Tryz.ntmps16
  go_wp2_with fail
  (with_reducible refine (hf _).mono ?_)
  rintro _ w1 ⟨rfl, rfl⟩
  clear hf e0
  go_wp2_with ((go_at_call 42; (with_reducible refine (within_any _ _ _ _).mono ?_); rintro e w' ⟨rfl, rfl⟩))
  refine wp_region_held_drew (S := fun W => W.cell? ⟨w.heap.size, 6, none⟩ = some (.int .i64 m)) (by kernel_rfl) (by first | (go_simp; done) | (simp; done)) (fun hS => ?_)
  refine wpAnyH_take (i := 0) (v := ?_) rfl (by kernel_rfl) (by kernel_rfl) (by kernel_rfl) (fun _ _ _ h => h) (Or.inl ⟨by rfl, ?_⟩) hS ?_
  rotate_left 1
  · intro w' hSw
    go_simp <;> with_reducible rfl
  try simp only [List.getElem_toArray, List.getElem_cons_zero, List.getElem_cons_succ, Act.put, List.setIfInBounds_toArray, List.set_cons_zero, List.set_cons_succ]
  refine wpAnyH_take (i := 1) (v := ?_) rfl (by kernel_rfl) (by kernel_rfl) (by kernel_rfl) (fun _ _ _ h => h) (Or.inl ⟨by rfl, ?_⟩) hS ?_
  rotate_left 1
  · intro w' hSw
    go_simp <;> with_reducible rfl
  try simp only [List.getElem_toArray, List.getElem_cons_zero, List.getElem_cons_succ, Act.put, List.setIfInBounds_toArray, List.set_cons_zero, List.set_cons_succ]
  refine wpAnyH_take (i := 2) (v := ?_) rfl (by kernel_rfl) (by kernel_rfl) (by kernel_rfl) (fun _ _ _ h => h) (Or.inl ⟨by rfl, ?_⟩) hS ?_
  rotate_left 1
  · intro w' hSw
    go_simp <;> with_reducible rfl
  try simp only [List.getElem_toArray, List.getElem_cons_zero, List.getElem_cons_succ, Act.put, List.setIfInBounds_toArray, List.set_cons_zero, List.set_cons_succ]
  refine wpAnyH_ready (rs := [3]) (by kernel_rfl) (by simp) (AllReadyH.cons rfl (fun K hK => ?_) AllReadyH.nil)
  go_simp
  refine hK _ _ (by first | (go_simp; done) | (simp; done)) (fun hS => ?_)
  clear hK K
  try simp only [List.getElem_toArray, List.getElem_cons_zero, List.getElem_cons_succ, Act.put, List.setIfInBounds_toArray, List.set_cons_zero, List.set_cons_succ]
  refine wpAnyH_take (i := 4) (v := ?_) rfl (by kernel_rfl) (by kernel_rfl) (by kernel_rfl) (fun _ _ _ h => h) (Or.inl ⟨by rfl, ?_⟩) hS ?_
  rotate_left 1
  · intro w' hSw
    go_simp <;> with_reducible rfl
  try simp only [List.getElem_toArray, List.getElem_cons_zero, List.getElem_cons_succ, Act.put, List.setIfInBounds_toArray, List.set_cons_zero, List.set_cons_succ]
  refine wpAnyH_ready (rs := [5]) (by kernel_rfl) (by simp) (AllReadyH.cons rfl (fun K hK => ?_) AllReadyH.nil)
  go_simp
  refine hK _ _ (by first | (go_simp; done) | (simp; done)) (fun hS => ?_)
  clear hK K
  try simp only [List.getElem_toArray, List.getElem_cons_zero, List.getElem_cons_succ, Act.put, List.setIfInBounds_toArray, List.set_cons_zero, List.set_cons_succ]
  refine wpAnyH_done (by kernel_rfl) ?_ _
  go_wp2_with ((go_at_call 42; (with_reducible refine (within_any _ _ _ _).mono ?_); rintro e w' ⟨rfl, rfl⟩))
  all_goals
    go_ret
    have h := H.out
    clear H
    refine ⟨?_, ?_⟩
    · show Ending.returned (Value.bool _) = Ending.returned (Value.bool _)
      rw [HR.out]
      congr 2
      first
        | (simp_all [secR, farR, sizeR, inI, iv0]; done)
        | (simp_all [secR, farR, sizeR, inI, iv0]; omega)
        | skip
    · first
        | exact (((Below.refl _ _).alloc (Nat.le_refl _) _).alloc (by simp only [World.size_alloc]; omega) _).drew
        | exact (((Below.refl _ _).alloc (Nat.le_refl _) _).alloc (by simp only [World.size_alloc]; omega) _).drew.alloc (by simp only [World.size_drew, World.size_alloc]; omega) _
        | exact ((((Below.refl _ _).alloc (Nat.le_refl _) _).alloc (by simp only [World.size_alloc]; omega) _).alloc (by simp only [World.size_alloc]; omega) _).drew
        | exact ((Below.refl _ _).alloc (Nat.le_refl _) _).alloc (by simp only [World.size_alloc]; omega) _
        | exact (((Below.refl _ _).alloc (Nat.le_refl _) _).alloc (by simp only [World.size_alloc]; omega) _).alloc (by simp only [World.size_alloc]; omega) _
        | skip
set_option maxHeartbeats 4000000 in
theorem right_putI (op : Int) (nr : Bool) (d s o m z : Int) (h : op = 15) (w : World) : Calls Tryz.prog 16 #[.agg #[.int .u8 op, .bool nr, .int .i64 d, .int .i64 s, .bool true, .int .i64 o, .int .i64 m, .int .i64 z]] w fun e w' => e = .returned (.bool (rightP ⟨op, nr, d, s, true, o, m, z⟩)) ∧ Below w.heap.size w w' := by
  have hf := fields_any op
  have e0 : fldP op = 186 := by unfold fldP; (repeat' split) <;> omega
  rw [e0] at hf
  have HR : Hid (rightP ⟨op, nr, d, s, true, o, m, z⟩ = (inI d 0 10 && farR (⟨op, nr, d, s, true, o, m, z⟩ : IV) && sizeR (⟨op, nr, d, s, true, o, m, z⟩ : IV) && secR (⟨op, nr, d, s, true, o, m, z⟩ : IV) && !nr)) := Lib.hid (by unfold rightP; rw [if_neg (by simp only; omega), if_neg (by simp only; omega), if_neg (by simp only; omega), if_pos h])
  have H := Lib.hid h
  clear h
  have hb3 : bits .and .i64 186 3 = 2 := by decide +kernel
  have hb4 : bits .and .i64 186 4 = 0 := by decide +kernel
  have hb8 : bits .and .i64 186 8 = 8 := by decide +kernel
  have hb16 : bits .and .i64 186 16 = 16 := by decide +kernel
  have hb32 : bits .and .i64 186 32 = 32 := by decide +kernel
  have hb64 : bits .and .i64 186 64 = 0 := by decide +kernel
  have hb1 : bits .and .i64 186 1 = 0 := by decide +kernel
  go_enter Tryz.func16, Tryz.ntmps16
  go_wp2_with fail
  (with_reducible refine (hf _).mono ?_)
  rintro _ w1 ⟨rfl, rfl⟩
  clear hf e0
  go_wp2_with (first | (go_at_call 42; (with_reducible refine (within_any _ _ _ _).mono ?_); rintro e w' ⟨rfl, rfl⟩) | (go_at_call 41; (with_reducible refine (sizes_new _ _ _ (by first | (simp [World.setCell]; done) | (simp [World.setCell, World.drew]; done))).mono ?_); rintro e w' ⟨rfl, rfl⟩) | (go_at_call 41; (with_reducible refine (sizes_newD _ _ _ (by simp [World.setCell])).mono ?_); rintro e w' ⟨rfl, rfl⟩))
  refine wp_region_held_drew (S := fun W => W.cell? ⟨w.heap.size, 6, none⟩ = some (.int .i64 m)) (by kernel_rfl) (by first | (go_simp; done) | (simp; done)) (fun hS => ?_)
  refine wpAnyH_take (i := 0) (v := ?_) rfl (by kernel_rfl) (by kernel_rfl) (by kernel_rfl) (fun _ _ _ h => h) (Or.inl ⟨by rfl, ?_⟩) hS ?_
  rotate_left 1
  · intro w' hSw
    go_simp <;> with_reducible rfl
  try simp only [List.getElem_toArray, List.getElem_cons_zero, List.getElem_cons_succ, Act.put, List.setIfInBounds_toArray, List.set_cons_zero, List.set_cons_succ]
  refine wpAnyH_take (i := 1) (v := ?_) rfl (by kernel_rfl) (by kernel_rfl) (by kernel_rfl) (fun _ _ _ h => h) (Or.inl ⟨by rfl, ?_⟩) hS ?_
  rotate_left 1
  · intro w' hSw
    go_simp <;> with_reducible rfl
  try simp only [List.getElem_toArray, List.getElem_cons_zero, List.getElem_cons_succ, Act.put, List.setIfInBounds_toArray, List.set_cons_zero, List.set_cons_succ]
  refine wpAnyH_take (i := 2) (v := ?_) rfl (by kernel_rfl) (by kernel_rfl) (by kernel_rfl) (fun _ _ _ h => h) (Or.inl ⟨by rfl, ?_⟩) hS ?_
  rotate_left 1
  · intro w' hSw
    go_simp <;> with_reducible rfl
  try simp only [List.getElem_toArray, List.getElem_cons_zero, List.getElem_cons_succ, Act.put, List.setIfInBounds_toArray, List.set_cons_zero, List.set_cons_succ]
  refine wpAnyH_ready (rs := [3]) (by kernel_rfl) (by simp) (AllReadyH.cons rfl (fun K hK => ?_) AllReadyH.nil)
  go_simp
  refine hK _ _ (by first | (go_simp; done) | (simp; done)) (fun hS => ?_)
  clear hK K
  try simp only [List.getElem_toArray, List.getElem_cons_zero, List.getElem_cons_succ, Act.put, List.setIfInBounds_toArray, List.set_cons_zero, List.set_cons_succ]
  refine wpAnyH_take (i := 4) (v := ?_) rfl (by kernel_rfl) (by kernel_rfl) (by kernel_rfl) (fun _ _ _ h => h) (Or.inl ⟨by rfl, ?_⟩) hS ?_
  rotate_left 1
  · intro w' hSw
    go_simp <;> with_reducible rfl
  try simp only [List.getElem_toArray, List.getElem_cons_zero, List.getElem_cons_succ, Act.put, List.setIfInBounds_toArray, List.set_cons_zero, List.set_cons_succ]
  refine wpAnyH_ready (rs := [5]) (by kernel_rfl) (by simp) (AllReadyH.cons rfl (fun K hK => ?_) AllReadyH.nil)
  go_simp
  refine hK _ _ (by first | (go_simp; done) | (simp; done)) (fun hS => ?_)
  clear hK K
  try simp only [List.getElem_toArray, List.getElem_cons_zero, List.getElem_cons_succ, Act.put, List.setIfInBounds_toArray, List.set_cons_zero, List.set_cons_succ]
  refine wpAnyH_done (by kernel_rfl) ?_ _
  go_wp2_with (first | (go_at_call 42; (with_reducible refine (within_any _ _ _ _).mono ?_); rintro e w' ⟨rfl, rfl⟩) | (go_at_call 41; (with_reducible refine (sizes_new _ _ _ (by first | (simp [World.setCell]; done) | (simp [World.setCell, World.drew]; done))).mono ?_); rintro e w' ⟨rfl, rfl⟩) | (go_at_call 41; (with_reducible refine (sizes_newD _ _ _ (by simp [World.setCell])).mono ?_); rintro e w' ⟨rfl, rfl⟩))
  all_goals
    go_ret
    have h := H.out
    clear H
    refine ⟨?_, ?_⟩
    · show Ending.returned (Value.bool _) = Ending.returned (Value.bool _)
      rw [HR.out]
      congr 2
      first
        | (simp_all [secR, farR, sizeR, inI, iv0]; done)
        | (simp_all [secR, farR, sizeR, inI, iv0]; omega)
        | skip
    · first
        | exact (((Below.refl _ _).alloc (Nat.le_refl _) _).alloc (by simp only [World.size_alloc]; omega) _).drew
        | exact (((Below.refl _ _).alloc (Nat.le_refl _) _).alloc (by simp only [World.size_alloc]; omega) _).drew.alloc (by simp only [World.size_drew, World.size_alloc]; omega) _
        | exact ((((Below.refl _ _).alloc (Nat.le_refl _) _).alloc (by simp only [World.size_alloc]; omega) _).alloc (by simp only [World.size_alloc]; omega) _).drew
        | exact ((Below.refl _ _).alloc (Nat.le_refl _) _).alloc (by simp only [World.size_alloc]; omega) _
        | exact (((Below.refl _ _).alloc (Nat.le_refl _) _).alloc (by simp only [World.size_alloc]; omega) _).alloc (by simp only [World.size_alloc]; omega) _
        | skip
set_option maxHeartbeats 4000000 in
theorem right_askI (op : Int) (nr : Bool) (d s o m z : Int) (h : 17 ≤ op ∧ op ≤ 27) (w : World) : Calls Tryz.prog 16 #[.agg #[.int .u8 op, .bool nr, .int .i64 d, .int .i64 s, .bool true, .int .i64 o, .int .i64 m, .int .i64 z]] w fun e w' => e = .returned (.bool (rightP ⟨op, nr, d, s, true, o, m, z⟩)) ∧ Below w.heap.size w w' := by
  have hf := fields_any op
  have e0 : fldP op = 218 := by unfold fldP; (repeat' split) <;> omega
  rw [e0] at hf
  have HR : Hid (rightP ⟨op, nr, d, s, true, o, m, z⟩ = (inI d 0 10 && farR (⟨op, nr, d, s, true, o, m, z⟩ : IV) && secR (⟨op, nr, d, s, true, o, m, z⟩ : IV) && decide (z = 0))) := Lib.hid (by unfold rightP; rw [if_neg (by simp only; omega), if_neg (by simp only; omega), if_neg (by simp only; omega), if_neg (by simp only; omega), if_neg (by simp only; omega), if_pos h])
  have H := Lib.hid h
  clear h
  have hb3 : bits .and .i64 218 3 = 2 := by decide +kernel
  have hb4 : bits .and .i64 218 4 = 0 := by decide +kernel
  have hb8 : bits .and .i64 218 8 = 8 := by decide +kernel
  have hb16 : bits .and .i64 218 16 = 16 := by decide +kernel
  have hb32 : bits .and .i64 218 32 = 0 := by decide +kernel
  have hb64 : bits .and .i64 218 64 = 64 := by decide +kernel
  have hb1 : bits .and .i64 218 1 = 0 := by decide +kernel
  go_enter Tryz.func16, Tryz.ntmps16
  go_wp2_with fail
  (with_reducible refine (hf _).mono ?_)
  rintro _ w1 ⟨rfl, rfl⟩
  clear hf e0
  go_wp2_with ((go_at_call 42; (with_reducible refine (within_any _ _ _ _).mono ?_); rintro e w' ⟨rfl, rfl⟩))
  refine wp_region_held_drew (S := fun W => W.cell? ⟨w.heap.size, 6, none⟩ = some (.int .i64 m)) (by kernel_rfl) (by first | (go_simp; done) | (simp; done)) (fun hS => ?_)
  refine wpAnyH_take (i := 0) (v := ?_) rfl (by kernel_rfl) (by kernel_rfl) (by kernel_rfl) (fun _ _ _ h => h) (Or.inl ⟨by rfl, ?_⟩) hS ?_
  rotate_left 1
  · intro w' hSw
    go_simp <;> with_reducible rfl
  try simp only [List.getElem_toArray, List.getElem_cons_zero, List.getElem_cons_succ, Act.put, List.setIfInBounds_toArray, List.set_cons_zero, List.set_cons_succ]
  refine wpAnyH_take (i := 1) (v := ?_) rfl (by kernel_rfl) (by kernel_rfl) (by kernel_rfl) (fun _ _ _ h => h) (Or.inl ⟨by rfl, ?_⟩) hS ?_
  rotate_left 1
  · intro w' hSw
    go_simp <;> with_reducible rfl
  try simp only [List.getElem_toArray, List.getElem_cons_zero, List.getElem_cons_succ, Act.put, List.setIfInBounds_toArray, List.set_cons_zero, List.set_cons_succ]
  refine wpAnyH_take (i := 2) (v := ?_) rfl (by kernel_rfl) (by kernel_rfl) (by kernel_rfl) (fun _ _ _ h => h) (Or.inl ⟨by rfl, ?_⟩) hS ?_
  rotate_left 1
  · intro w' hSw
    go_simp <;> with_reducible rfl
  try simp only [List.getElem_toArray, List.getElem_cons_zero, List.getElem_cons_succ, Act.put, List.setIfInBounds_toArray, List.set_cons_zero, List.set_cons_succ]
  refine wpAnyH_ready (rs := [3]) (by kernel_rfl) (by simp) (AllReadyH.cons rfl (fun K hK => ?_) AllReadyH.nil)
  go_simp
  refine hK _ _ (by first | (go_simp; done) | (simp; done)) (fun hS => ?_)
  clear hK K
  try simp only [List.getElem_toArray, List.getElem_cons_zero, List.getElem_cons_succ, Act.put, List.setIfInBounds_toArray, List.set_cons_zero, List.set_cons_succ]
  refine wpAnyH_take (i := 4) (v := ?_) rfl (by kernel_rfl) (by kernel_rfl) (by kernel_rfl) (fun _ _ _ h => h) (Or.inl ⟨by rfl, ?_⟩) hS ?_
  rotate_left 1
  · intro w' hSw
    go_simp <;> with_reducible rfl
  try simp only [List.getElem_toArray, List.getElem_cons_zero, List.getElem_cons_succ, Act.put, List.setIfInBounds_toArray, List.set_cons_zero, List.set_cons_succ]
  refine wpAnyH_ready (rs := [5]) (by kernel_rfl) (by simp) (AllReadyH.cons rfl (fun K hK => ?_) AllReadyH.nil)
  go_simp
  refine hK _ _ (by first | (go_simp; done) | (simp; done)) (fun hS => ?_)
  clear hK K
  try simp only [List.getElem_toArray, List.getElem_cons_zero, List.getElem_cons_succ, Act.put, List.setIfInBounds_toArray, List.set_cons_zero, List.set_cons_succ]
  refine wpAnyH_done (by kernel_rfl) ?_ _
  go_wp2_with ((go_at_call 42; (with_reducible refine (within_any _ _ _ _).mono ?_); rintro e w' ⟨rfl, rfl⟩))
  all_goals
    go_ret
    have h := H.out
    clear H
    refine ⟨?_, ?_⟩
    · show Ending.returned (Value.bool _) = Ending.returned (Value.bool _)
      rw [HR.out]
      congr 2
      first
        | (simp_all [secR, farR, sizeR, inI, iv0]; done)
        | (simp_all [secR, farR, sizeR, inI, iv0]; omega)
        | skip
    · first
        | exact (((Below.refl _ _).alloc (Nat.le_refl _) _).alloc (by simp only [World.size_alloc]; omega) _).drew
        | exact (((Below.refl _ _).alloc (Nat.le_refl _) _).alloc (by simp only [World.size_alloc]; omega) _).drew.alloc (by simp only [World.size_drew, World.size_alloc]; omega) _
        | exact ((((Below.refl _ _).alloc (Nat.le_refl _) _).alloc (by simp only [World.size_alloc]; omega) _).alloc (by simp only [World.size_alloc]; omega) _).drew
        | exact ((Below.refl _ _).alloc (Nat.le_refl _) _).alloc (by simp only [World.size_alloc]; omega) _
        | exact (((Below.refl _ _).alloc (Nat.le_refl _) _).alloc (by simp only [World.size_alloc]; omega) _).alloc (by simp only [World.size_alloc]; omega) _
        | skip
end Go.Proofs.YtjebjninlejoeaaGreatDoor
namespace Go.Proofs.YtjebjninlejoeaaGreatDoor
open Go.RowKit Go.Maps Go.ChangeMaps
set_option linter.unusedVariables false

theorem right_any (i : IV) (w : World) : Calls Tryz.prog 16 #[.agg (ivV i).toArray] w fun e w' => e = .returned (.bool (rightP i)) ∧ Below w.heap.size w w' := by
  obtain ⟨op, nr, d, s, u, o, m, z⟩ := i
  show Calls Tryz.prog 16 #[.agg #[.int .u8 op, .bool nr, .int .i64 d, .int .i64 s, .bool u, .int .i64 o, .int .i64 m, .int .i64 z]] w _
  cases u
  · by_cases h1 : 1 ≤ op ∧ op ≤ 12
    · exact right_alu op nr d s o m z h1 w
    by_cases h2 : op = 13
    · exact right_neg op nr d s o m z h2 w
    by_cases h3 : op = 14
    · exact right_load op nr d s o m z h3 w
    by_cases h4 : op = 15
    · exact right_put op nr d s o m z h4 w
    by_cases h5 : op = 16
    · exact right_jump op nr d s o m z h5 w
    by_cases h6 : 17 ≤ op ∧ op ≤ 27
    · exact right_ask op nr d s o m z h6 w
    by_cases h7 : op = 28
    · exact right_exit op nr d s o m z h7 w
    exact right_no op nr d s o m z (by omega) w
  · by_cases h1 : 1 ≤ op ∧ op ≤ 12
    · exact right_aluI op nr d s o m z h1 w
    by_cases h2 : op = 13
    · exact right_negI op nr d s o m z h2 w
    by_cases h3 : op = 14
    · exact right_loadI op nr d s o m z h3 w
    by_cases h4 : op = 15
    · exact right_putI op nr d s o m z h4 w
    by_cases h5 : op = 16
    · exact right_jumpI op nr d s o m z h5 w
    by_cases h6 : 17 ≤ op ∧ op ≤ 27
    · exact right_askI op nr d s o m z h6 w
    by_cases h7 : op = 28
    · exact right_exitI op nr d s o m z h7 w
    exact right_noI op nr d s o m z (by omega) w
end Go.Proofs.YtjebjninlejoeaaGreatDoor
