/- text, the document's walk: is an instruction right? -/
import Derived.Test.YtjebjninlejoeaaGreatDoorZM
namespace Go.Proofs.YtjebjninlejoeaaGreatDoor
open Go.RowKit Go.Maps Go.ChangeMaps
set_option linter.unusedVariables false
set_option linter.unusedSimpArgs false
set_option linter.unusedSectionVars false
set_option maxRecDepth 100000

theorem rCondb {op : Int} {b : Bool} (hI : inI op 17 27 = b) (nr : Bool) (d s : Int) (o m z : Int) (w : World) (u : Bool) : Calls Tryz.prog 110 #[.agg #[.int .u8 op, .bool nr, .int .i64 d, .int .i64 s, .bool u, .int .i64 o, .int .i64 m, .int .i64 z]] w fun e w' => e = .returned (.bool b) ∧ w' = w.alloc (.cells #[.int .u8 op, .bool nr, .int .i64 d, .int .i64 s, .bool u, .int .i64 o, .int .i64 m, .int .i64 z] 40) := by
  subst hI
  exact rCond_any op nr d s o m z w u
set_option maxHeartbeats 4000000 in
theorem rr_alu (op : Int) (nr : Bool) (d s : Int) (u : Bool) (o m z : Int) (h : 1 ≤ op ∧ op ≤ 12) (w : World) : Calls Tryz.prog 38 #[.agg #[.int .u8 op, .bool nr, .int .i64 d, .int .i64 s, .bool u, .int .i64 o, .int .i64 m, .int .i64 z]] w fun e w' => e = .returned (.bool (rightP ⟨op, nr, d, s, u, o, m, z⟩)) ∧ Below w.heap.size w w' := by
  have HR : Hid (rightP ⟨op, nr, d, s, u, o, m, z⟩ = (inI d 0 9 && secR (⟨op, nr, d, s, u, o, m, z⟩ : IV) && decide (o = 0) && decide (z = 0))) := Lib.hid (by unfold rightP; rw [if_pos h])
  have c13 : (op == 13) = false := by simp; omega
  have c14 : (op == 14) = false := by simp; omega
  have c15 : (op == 15) = false := by simp; omega
  have c16 : (op == 16) = false := by simp; omega
  obtain ⟨h1, h2⟩ := h
  have heq := eql_iv
  go_enter Tryz.func38, Tryz.ntmps38
  go_wp2_with (first | (go_at_call 105; (with_reducible refine (rtarget_any _ _).mono ?_); rintro e w' ⟨rfl, rfl⟩) | (go_at_call 107; (with_reducible refine (rregister_any _ _).mono ?_); rintro e w' ⟨rfl, rfl⟩) | (go_at_call 106; (with_reducible refine (rsecI_any _ _ _ _ _ _ _ _ _).mono ?_); rintro e w' ⟨rfl, rfl⟩) | (go_at_call 108; (with_reducible refine (rfarI_any _ _ _ _ _ _ _ _ _).mono ?_); rintro e w' ⟨rfl, rfl⟩) | (go_at_call 109; (with_reducible refine (rsizedI_any _ _ _ _ _ _ _ _ _).mono ?_); rintro e w' ⟨rfl, rfl⟩))
  all_goals
    go_ret
    refine ⟨?_, ?_⟩
    · show Ending.returned (Value.bool _) = Ending.returned (Value.bool _)
      rw [HR.out]
      congr 2
      clear HR heq
      first
        | (rw [Bool.eq_iff_iff]; simp_all; done)
        | (rw [Bool.eq_iff_iff]; simp_all [secR, farR, sizeR, inI, iv0]; done)
        | (rw [Bool.eq_iff_iff]; simp_all [secR, farR, sizeR, inI, iv0]; omega)
        | skip
    · repeat' first
        | exact Below.refl _ _
        | (refine Below.alloc ?_ (by first | exact Nat.le_refl _ | (simp only [World.size_alloc]; omega)) _)
set_option maxHeartbeats 4000000 in
theorem rr_neg (op : Int) (nr : Bool) (d s : Int) (u : Bool) (o m z : Int) (h : op = 13) (w : World) : Calls Tryz.prog 38 #[.agg #[.int .u8 op, .bool nr, .int .i64 d, .int .i64 s, .bool u, .int .i64 o, .int .i64 m, .int .i64 z]] w fun e w' => e = .returned (.bool (rightP ⟨op, nr, d, s, u, o, m, z⟩)) ∧ Below w.heap.size w w' := by
  have HR : Hid (rightP ⟨op, nr, d, s, u, o, m, z⟩ = (inI d 0 9 && decide ((⟨op, nr, d, s, u, o, m, z⟩ : IV) = { iv0 13 with narrow := nr, dst := d }))) := Lib.hid (by unfold rightP; rw [if_neg (by simp only; omega), if_pos h])
  subst h
  have heq := eql_iv
  go_enter Tryz.func38, Tryz.ntmps38
  go_wp2_with (first | (go_at_call 105; (with_reducible refine (rtarget_any _ _).mono ?_); rintro e w' ⟨rfl, rfl⟩) | (go_at_call 107; (with_reducible refine (rregister_any _ _).mono ?_); rintro e w' ⟨rfl, rfl⟩) | (go_at_call 106; (with_reducible refine (rsecI_any _ _ _ _ _ _ _ _ _).mono ?_); rintro e w' ⟨rfl, rfl⟩) | (go_at_call 108; (with_reducible refine (rfarI_any _ _ _ _ _ _ _ _ _).mono ?_); rintro e w' ⟨rfl, rfl⟩) | (go_at_call 109; (with_reducible refine (rsizedI_any _ _ _ _ _ _ _ _ _).mono ?_); rintro e w' ⟨rfl, rfl⟩))
  all_goals
    go_ret
    refine ⟨?_, ?_⟩
    · show Ending.returned (Value.bool _) = Ending.returned (Value.bool _)
      rw [HR.out]
      congr 2
      clear HR heq
      first
        | (rw [Bool.eq_iff_iff]; simp_all; done)
        | (rw [Bool.eq_iff_iff]; simp_all [secR, farR, sizeR, inI, iv0]; done)
        | (rw [Bool.eq_iff_iff]; simp_all [secR, farR, sizeR, inI, iv0]; omega)
        | skip
    · repeat' first
        | exact Below.refl _ _
        | (refine Below.alloc ?_ (by first | exact Nat.le_refl _ | (simp only [World.size_alloc]; omega)) _)
set_option maxHeartbeats 4000000 in
theorem rr_load (op : Int) (nr : Bool) (d s : Int) (u : Bool) (o m z : Int) (h : op = 14) (w : World) : Calls Tryz.prog 38 #[.agg #[.int .u8 op, .bool nr, .int .i64 d, .int .i64 s, .bool u, .int .i64 o, .int .i64 m, .int .i64 z]] w fun e w' => e = .returned (.bool (rightP ⟨op, nr, d, s, u, o, m, z⟩)) ∧ Below w.heap.size w w' := by
  have HR : Hid (rightP ⟨op, nr, d, s, u, o, m, z⟩ = (inI d 0 9 && inI s 0 10 && farR (⟨op, nr, d, s, u, o, m, z⟩ : IV) && sizeR (⟨op, nr, d, s, u, o, m, z⟩ : IV) && decide ((⟨op, nr, d, s, u, o, m, z⟩ : IV) = { iv0 14 with dst := d, src := s, off := o, size := z }))) := Lib.hid (by unfold rightP; rw [if_neg (by simp only; omega), if_neg (by simp only; omega), if_pos h])
  subst h
  have heq := eql_iv
  go_enter Tryz.func38, Tryz.ntmps38
  go_wp2_with (first | (go_at_call 105; (with_reducible refine (rtarget_any _ _).mono ?_); rintro e w' ⟨rfl, rfl⟩) | (go_at_call 107; (with_reducible refine (rregister_any _ _).mono ?_); rintro e w' ⟨rfl, rfl⟩) | (go_at_call 106; (with_reducible refine (rsecI_any _ _ _ _ _ _ _ _ _).mono ?_); rintro e w' ⟨rfl, rfl⟩) | (go_at_call 108; (with_reducible refine (rfarI_any _ _ _ _ _ _ _ _ _).mono ?_); rintro e w' ⟨rfl, rfl⟩) | (go_at_call 109; (with_reducible refine (rsizedI_any _ _ _ _ _ _ _ _ _).mono ?_); rintro e w' ⟨rfl, rfl⟩))
  all_goals
    go_ret
    refine ⟨?_, ?_⟩
    · show Ending.returned (Value.bool _) = Ending.returned (Value.bool _)
      rw [HR.out]
      congr 2
      clear HR heq
      first
        | (rw [Bool.eq_iff_iff]; simp_all; done)
        | (rw [Bool.eq_iff_iff]; simp_all [secR, farR, sizeR, inI, iv0]; done)
        | (rw [Bool.eq_iff_iff]; simp_all [secR, farR, sizeR, inI, iv0]; omega)
        | skip
    · repeat' first
        | exact Below.refl _ _
        | (refine Below.alloc ?_ (by first | exact Nat.le_refl _ | (simp only [World.size_alloc]; omega)) _)
set_option maxHeartbeats 4000000 in
theorem rr_put (op : Int) (nr : Bool) (d s : Int) (u : Bool) (o m z : Int) (h : op = 15) (w : World) : Calls Tryz.prog 38 #[.agg #[.int .u8 op, .bool nr, .int .i64 d, .int .i64 s, .bool u, .int .i64 o, .int .i64 m, .int .i64 z]] w fun e w' => e = .returned (.bool (rightP ⟨op, nr, d, s, u, o, m, z⟩)) ∧ Below w.heap.size w w' := by
  have HR : Hid (rightP ⟨op, nr, d, s, u, o, m, z⟩ = (inI d 0 10 && farR (⟨op, nr, d, s, u, o, m, z⟩ : IV) && sizeR (⟨op, nr, d, s, u, o, m, z⟩ : IV) && secR (⟨op, nr, d, s, u, o, m, z⟩ : IV) && !nr)) := Lib.hid (by unfold rightP; rw [if_neg (by simp only; omega), if_neg (by simp only; omega), if_neg (by simp only; omega), if_pos h])
  subst h
  have heq := eql_iv
  go_enter Tryz.func38, Tryz.ntmps38
  go_wp2_with (first | (go_at_call 105; (with_reducible refine (rtarget_any _ _).mono ?_); rintro e w' ⟨rfl, rfl⟩) | (go_at_call 107; (with_reducible refine (rregister_any _ _).mono ?_); rintro e w' ⟨rfl, rfl⟩) | (go_at_call 106; (with_reducible refine (rsecI_any _ _ _ _ _ _ _ _ _).mono ?_); rintro e w' ⟨rfl, rfl⟩) | (go_at_call 108; (with_reducible refine (rfarI_any _ _ _ _ _ _ _ _ _).mono ?_); rintro e w' ⟨rfl, rfl⟩) | (go_at_call 109; (with_reducible refine (rsizedI_any _ _ _ _ _ _ _ _ _).mono ?_); rintro e w' ⟨rfl, rfl⟩))
  all_goals
    go_ret
    refine ⟨?_, ?_⟩
    · show Ending.returned (Value.bool _) = Ending.returned (Value.bool _)
      rw [HR.out]
      congr 2
      clear HR heq
      first
        | (rw [Bool.eq_iff_iff]; simp_all; done)
        | (rw [Bool.eq_iff_iff]; simp_all [secR, farR, sizeR, inI, iv0]; done)
        | (rw [Bool.eq_iff_iff]; simp_all [secR, farR, sizeR, inI, iv0]; omega)
        | skip
    · repeat' first
        | exact Below.refl _ _
        | (refine Below.alloc ?_ (by first | exact Nat.le_refl _ | (simp only [World.size_alloc]; omega)) _)
set_option maxHeartbeats 4000000 in
theorem rr_jump (op : Int) (nr : Bool) (d s : Int) (u : Bool) (o m z : Int) (h : op = 16) (w : World) : Calls Tryz.prog 38 #[.agg #[.int .u8 op, .bool nr, .int .i64 d, .int .i64 s, .bool u, .int .i64 o, .int .i64 m, .int .i64 z]] w fun e w' => e = .returned (.bool (rightP ⟨op, nr, d, s, u, o, m, z⟩)) ∧ Below w.heap.size w w' := by
  have HR : Hid (rightP ⟨op, nr, d, s, u, o, m, z⟩ = (farR (⟨op, nr, d, s, u, o, m, z⟩ : IV) && decide ((⟨op, nr, d, s, u, o, m, z⟩ : IV) = { iv0 16 with off := o }))) := Lib.hid (by unfold rightP; rw [if_neg (by simp only; omega), if_neg (by simp only; omega), if_neg (by simp only; omega), if_neg (by simp only; omega), if_pos h])
  subst h
  have heq := eql_iv
  go_enter Tryz.func38, Tryz.ntmps38
  go_wp2_with (first | (go_at_call 105; (with_reducible refine (rtarget_any _ _).mono ?_); rintro e w' ⟨rfl, rfl⟩) | (go_at_call 107; (with_reducible refine (rregister_any _ _).mono ?_); rintro e w' ⟨rfl, rfl⟩) | (go_at_call 106; (with_reducible refine (rsecI_any _ _ _ _ _ _ _ _ _).mono ?_); rintro e w' ⟨rfl, rfl⟩) | (go_at_call 108; (with_reducible refine (rfarI_any _ _ _ _ _ _ _ _ _).mono ?_); rintro e w' ⟨rfl, rfl⟩) | (go_at_call 109; (with_reducible refine (rsizedI_any _ _ _ _ _ _ _ _ _).mono ?_); rintro e w' ⟨rfl, rfl⟩))
  all_goals
    go_ret
    refine ⟨?_, ?_⟩
    · show Ending.returned (Value.bool _) = Ending.returned (Value.bool _)
      rw [HR.out]
      congr 2
      clear HR heq
      first
        | (rw [Bool.eq_iff_iff]; simp_all; done)
        | (rw [Bool.eq_iff_iff]; simp_all [secR, farR, sizeR, inI, iv0]; done)
        | (rw [Bool.eq_iff_iff]; simp_all [secR, farR, sizeR, inI, iv0]; omega)
        | skip
    · repeat' first
        | exact Below.refl _ _
        | (refine Below.alloc ?_ (by first | exact Nat.le_refl _ | (simp only [World.size_alloc]; omega)) _)
set_option maxHeartbeats 4000000 in
theorem rr_ask (op : Int) (nr : Bool) (d s : Int) (u : Bool) (o m z : Int) (h : 17 ≤ op ∧ op ≤ 27) (w : World) : Calls Tryz.prog 38 #[.agg #[.int .u8 op, .bool nr, .int .i64 d, .int .i64 s, .bool u, .int .i64 o, .int .i64 m, .int .i64 z]] w fun e w' => e = .returned (.bool (rightP ⟨op, nr, d, s, u, o, m, z⟩)) ∧ Below w.heap.size w w' := by
  have HR : Hid (rightP ⟨op, nr, d, s, u, o, m, z⟩ = (inI d 0 10 && farR (⟨op, nr, d, s, u, o, m, z⟩ : IV) && secR (⟨op, nr, d, s, u, o, m, z⟩ : IV) && decide (z = 0))) := Lib.hid (by unfold rightP; rw [if_neg (by simp only; omega), if_neg (by simp only; omega), if_neg (by simp only; omega), if_neg (by simp only; omega), if_neg (by simp only; omega), if_pos h])
  have c13 : (op == 13) = false := by simp; omega
  have c14 : (op == 14) = false := by simp; omega
  have c15 : (op == 15) = false := by simp; omega
  have c16 : (op == 16) = false := by simp; omega
  obtain ⟨h1, h2⟩ := h
  have g1 : (1 : Int) ≤ op := by omega
  have g2 : ¬ op ≤ (12 : Int) := by omega
  have hI : inI op 17 27 = true := by unfold inI; simp [h1, h2]
  have heq := eql_iv
  go_enter Tryz.func38, Tryz.ntmps38
  go_wp2_with (first | (go_at_call 105; (with_reducible refine (rtarget_any _ _).mono ?_); rintro e w' ⟨rfl, rfl⟩) | (go_at_call 107; (with_reducible refine (rregister_any _ _).mono ?_); rintro e w' ⟨rfl, rfl⟩) | (go_at_call 106; (with_reducible refine (rsecI_any _ _ _ _ _ _ _ _ _).mono ?_); rintro e w' ⟨rfl, rfl⟩) | (go_at_call 108; (with_reducible refine (rfarI_any _ _ _ _ _ _ _ _ _).mono ?_); rintro e w' ⟨rfl, rfl⟩) | (go_at_call 109; (with_reducible refine (rsizedI_any _ _ _ _ _ _ _ _ _).mono ?_); rintro e w' ⟨rfl, rfl⟩) | (go_at_call 110; (with_reducible refine (rCondb hI _ _ _ _ _ _ _ _).mono ?_); rintro e w' ⟨rfl, rfl⟩))
  all_goals
    go_ret
    refine ⟨?_, ?_⟩
    · show Ending.returned (Value.bool _) = Ending.returned (Value.bool _)
      rw [HR.out]
      congr 2
      clear HR heq
      first
        | (rw [Bool.eq_iff_iff]; simp_all; done)
        | (rw [Bool.eq_iff_iff]; simp_all [secR, farR, sizeR, inI, iv0]; done)
        | (rw [Bool.eq_iff_iff]; simp_all [secR, farR, sizeR, inI, iv0]; omega)
        | skip
    · repeat' first
        | exact Below.refl _ _
        | (refine Below.alloc ?_ (by first | exact Nat.le_refl _ | (simp only [World.size_alloc]; omega)) _)
set_option maxHeartbeats 4000000 in
theorem rr_lo (op : Int) (nr : Bool) (d s : Int) (u : Bool) (o m z : Int) (h : op < 1) (w : World) : Calls Tryz.prog 38 #[.agg #[.int .u8 op, .bool nr, .int .i64 d, .int .i64 s, .bool u, .int .i64 o, .int .i64 m, .int .i64 z]] w fun e w' => e = .returned (.bool (rightP ⟨op, nr, d, s, u, o, m, z⟩)) ∧ Below w.heap.size w w' := by
  have HR : Hid (rightP ⟨op, nr, d, s, u, o, m, z⟩ = (decide ((⟨op, nr, d, s, u, o, m, z⟩ : IV) = iv0 28))) := Lib.hid (by unfold rightP; rw [if_neg (by simp only; omega), if_neg (by simp only; omega), if_neg (by simp only; omega), if_neg (by simp only; omega), if_neg (by simp only; omega), if_neg (by simp only; omega)])
  have c13 : (op == 13) = false := by simp; omega
  have c14 : (op == 14) = false := by simp; omega
  have c15 : (op == 15) = false := by simp; omega
  have c16 : (op == 16) = false := by simp; omega
  have g1 : ¬ (1 : Int) ≤ op := by omega
  have hI : inI op 17 27 = false := by unfold inI; simp; omega
  have heq := eql_iv
  go_enter Tryz.func38, Tryz.ntmps38
  go_wp2_with (first | (go_at_call 105; (with_reducible refine (rtarget_any _ _).mono ?_); rintro e w' ⟨rfl, rfl⟩) | (go_at_call 107; (with_reducible refine (rregister_any _ _).mono ?_); rintro e w' ⟨rfl, rfl⟩) | (go_at_call 106; (with_reducible refine (rsecI_any _ _ _ _ _ _ _ _ _).mono ?_); rintro e w' ⟨rfl, rfl⟩) | (go_at_call 108; (with_reducible refine (rfarI_any _ _ _ _ _ _ _ _ _).mono ?_); rintro e w' ⟨rfl, rfl⟩) | (go_at_call 109; (with_reducible refine (rsizedI_any _ _ _ _ _ _ _ _ _).mono ?_); rintro e w' ⟨rfl, rfl⟩) | (go_at_call 110; (with_reducible refine (rCondb hI _ _ _ _ _ _ _ _).mono ?_); rintro e w' ⟨rfl, rfl⟩))
  all_goals
    go_ret
    refine ⟨?_, ?_⟩
    · show Ending.returned (Value.bool _) = Ending.returned (Value.bool _)
      rw [HR.out]
      congr 2
      clear HR heq
      first
        | (rw [Bool.eq_iff_iff]; simp_all; done)
        | (rw [Bool.eq_iff_iff]; simp_all [secR, farR, sizeR, inI, iv0]; done)
        | (rw [Bool.eq_iff_iff]; simp_all [secR, farR, sizeR, inI, iv0]; omega)
        | skip
    · repeat' first
        | exact Below.refl _ _
        | (refine Below.alloc ?_ (by first | exact Nat.le_refl _ | (simp only [World.size_alloc]; omega)) _)
set_option maxHeartbeats 4000000 in
theorem rr_hi (op : Int) (nr : Bool) (d s : Int) (u : Bool) (o m z : Int) (h : 27 < op) (w : World) : Calls Tryz.prog 38 #[.agg #[.int .u8 op, .bool nr, .int .i64 d, .int .i64 s, .bool u, .int .i64 o, .int .i64 m, .int .i64 z]] w fun e w' => e = .returned (.bool (rightP ⟨op, nr, d, s, u, o, m, z⟩)) ∧ Below w.heap.size w w' := by
  have HR : Hid (rightP ⟨op, nr, d, s, u, o, m, z⟩ = (decide ((⟨op, nr, d, s, u, o, m, z⟩ : IV) = iv0 28))) := Lib.hid (by unfold rightP; rw [if_neg (by simp only; omega), if_neg (by simp only; omega), if_neg (by simp only; omega), if_neg (by simp only; omega), if_neg (by simp only; omega), if_neg (by simp only; omega)])
  have c13 : (op == 13) = false := by simp; omega
  have c14 : (op == 14) = false := by simp; omega
  have c15 : (op == 15) = false := by simp; omega
  have c16 : (op == 16) = false := by simp; omega
  have g1 : (1 : Int) ≤ op := by omega
  have g2 : ¬ op ≤ (12 : Int) := by omega
  have hI : inI op 17 27 = false := by unfold inI; simp; omega
  have heq := eql_iv
  go_enter Tryz.func38, Tryz.ntmps38
  go_wp2_with (first | (go_at_call 105; (with_reducible refine (rtarget_any _ _).mono ?_); rintro e w' ⟨rfl, rfl⟩) | (go_at_call 107; (with_reducible refine (rregister_any _ _).mono ?_); rintro e w' ⟨rfl, rfl⟩) | (go_at_call 106; (with_reducible refine (rsecI_any _ _ _ _ _ _ _ _ _).mono ?_); rintro e w' ⟨rfl, rfl⟩) | (go_at_call 108; (with_reducible refine (rfarI_any _ _ _ _ _ _ _ _ _).mono ?_); rintro e w' ⟨rfl, rfl⟩) | (go_at_call 109; (with_reducible refine (rsizedI_any _ _ _ _ _ _ _ _ _).mono ?_); rintro e w' ⟨rfl, rfl⟩) | (go_at_call 110; (with_reducible refine (rCondb hI _ _ _ _ _ _ _ _).mono ?_); rintro e w' ⟨rfl, rfl⟩))
  all_goals
    go_ret
    refine ⟨?_, ?_⟩
    · show Ending.returned (Value.bool _) = Ending.returned (Value.bool _)
      rw [HR.out]
      congr 2
      clear HR heq
      first
        | (rw [Bool.eq_iff_iff]; simp_all; done)
        | (rw [Bool.eq_iff_iff]; simp_all [secR, farR, sizeR, inI, iv0]; done)
        | (rw [Bool.eq_iff_iff]; simp_all [secR, farR, sizeR, inI, iv0]; omega)
        | skip
    · repeat' first
        | exact Below.refl _ _
        | (refine Below.alloc ?_ (by first | exact Nat.le_refl _ | (simp only [World.size_alloc]; omega)) _)
theorem rright_any (i : IV) (w : World) : Calls Tryz.prog 38 #[.agg (ivV i).toArray] w fun e w' => e = .returned (.bool (rightP i)) ∧ Below w.heap.size w w' := by
  obtain ⟨op, nr, d, s, u, o, m, z⟩ := i
  show Calls Tryz.prog 38 #[.agg #[.int .u8 op, .bool nr, .int .i64 d, .int .i64 s, .bool u, .int .i64 o, .int .i64 m, .int .i64 z]] w _
  by_cases h1 : 1 ≤ op ∧ op ≤ 12
  · exact rr_alu op nr d s u o m z h1 w
  by_cases h2 : op = 13
  · exact rr_neg op nr d s u o m z h2 w
  by_cases h3 : op = 14
  · exact rr_load op nr d s u o m z h3 w
  by_cases h4 : op = 15
  · exact rr_put op nr d s u o m z h4 w
  by_cases h5 : op = 16
  · exact rr_jump op nr d s u o m z h5 w
  by_cases h6 : 17 ≤ op ∧ op ≤ 27
  · exact rr_ask op nr d s u o m z h6 w
  by_cases h7 : op < 1
  · exact rr_lo op nr d s u o m z h7 w
  exact rr_hi op nr d s u o m z (by omega) w
end Go.Proofs.YtjebjninlejoeaaGreatDoor

