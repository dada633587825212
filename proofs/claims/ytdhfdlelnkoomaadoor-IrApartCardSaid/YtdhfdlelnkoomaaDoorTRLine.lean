/- The document's lines: line. -/
import Derived.Test.YtdhfdlelnkoomaaDoorTRWord
namespace Go.Proofs.YtdhfdlelnkoomaaDoor
open Go.RowKit
set_option linter.unusedVariables false
set_option maxRecDepth 100000
theorem Kp.hB {B N : Nat} {f : Ins} {W0 w : World} (h : Kp B N f W0 w) : B ≤ w.heap.size := by have := h.bk.lt; have := h.lo; omega
set_option maxHeartbeats 2000000 in
theorem rline1 {B : Nat} (op : Nat) (nar : Bool) (d a bb u sz t : Nat) (hf : Ln op d a bb u sz t) (w : World) (ht : Tb B w) (hB : B ≤ w.heap.size) :
    Calls Tryd.prog 26 #[insA (mkI 1 op nar d a bb u sz t)] w fun e w' => e = .returned (.string ⟨(lineT 1 op nar d a bb u sz t).toArray⟩) ∧ Below w.heap.size w w' := by
  obtain ⟨w0, e0, HK, hz⟩ := Kp.box (mkI 1 op nar d a bb u sz t) ht hB
  have hcs := HK.out.cs
  simp only [mkI] at hcs
  obtain ⟨c0, c1, c2, c3, c4, c5, c6, c7, c8⟩ := hcs
  have h1 := rT_l d hf.ld
  have h2 := rT_l a hf.la
  have h3 := rT_l bb hf.lb
  have h4 := dec_len u hf.lu
  have h5 := itoa_l t (by have := hf.lt; omega)
  have h6 := word_l op hf.lw nar
  have h7 := cellT_len [112, 97, 99, 107, 101, 116] a u sz hf.la hf.lu hf.ls
  have h8 := cellT_len [115, 116, 97, 99, 107] a u sz hf.la hf.lu hf.ls
  simp only [List.length_cons, List.length_nil] at h7 h8
  have HE := Lib.hid (show lineT 1 op nar d a bb u sz t = (((rT d) ++ eqT) ++ (Lib.decDigits u)) by simp [lineT, lineP, List.append_assoc])
  have HK0 := Lib.hid HK.out.drew
  have g1 : ¬ (9223372036854775807 < (rT (d : Int)).length + 3) := by omega
  have g2 : ¬ (9223372036854775807 < (rT (d : Int)).length + 3 + (Lib.decDigits u).length) := by omega
  clear h1 h2 h3 h4 h5 h6 h7 h8 ht
  simp only [mkI, insV] at e0
  go_enter Tryd.func26, Tryd.ntmps26
  unfold insA insV mkI
  go_wp2_with fail
  clear e0
  go_region_held3 (fun w' => w'.cell? ⟨w.heap.size, 0, none⟩ = some (.int .u8 1) ∧ w'.cell? ⟨w.heap.size, 1, none⟩ = some (.int .u8 (op : Int)) ∧ w'.cell? ⟨w.heap.size, 2, none⟩ = some (.bool nar) ∧ w'.cell? ⟨w.heap.size, 3, none⟩ = some (.int .i64 (d : Int)) ∧ w'.cell? ⟨w.heap.size, 4, none⟩ = some (.int .i64 (a : Int)) ∧ w'.cell? ⟨w.heap.size, 5, none⟩ = some (.int .i64 (bb : Int)) ∧ w'.cell? ⟨w.heap.size, 6, none⟩ = some (.int .u64 (u : Int)) ∧ w'.cell? ⟨w.heap.size, 7, none⟩ = some (.int .i64 (sz : Int)) ∧ w'.cell? ⟨w.heap.size, 8, none⟩ = some (.int .i64 (t : Int))) (exact Kp.cs (Hid.out (by assumption)))
    (first
      | (go_at_call 48; refine (rrN_any d hf.ld _ (Kp.tb (Hid.out (by assumption)))).mono ?_; rintro _ w' ⟨rfl, hb'⟩; have HK' := Lib.hid (Kp.step (Hid.out (by assumption)) hb'); clear hb')
      | (go_at_call 44; refine (fmtU_any u hf.lu _ (Kp.tb (Hid.out (by assumption)))).mono ?_; rintro _ w' ⟨rfl, hb'⟩; have HK' := Lib.hid (Kp.step (Hid.out (by assumption)) hb'); clear hb'))
  go_wp2_with fail
  go_ret
  refine ⟨ret_str ?_, Kp.below (Hid.out (by assumption))⟩
  rw [HE.out]
  simp only [mk_app, eqT]
set_option maxHeartbeats 2000000 in
theorem rline2 {B : Nat} (op : Nat) (nar : Bool) (d a bb u sz t : Nat) (hf : Ln op d a bb u sz t) (w : World) (ht : Tb B w) (hB : B ≤ w.heap.size) :
    Calls Tryd.prog 26 #[insA (mkI 2 op nar d a bb u sz t)] w fun e w' => e = .returned (.string ⟨(lineT 2 op nar d a bb u sz t).toArray⟩) ∧ Below w.heap.size w w' := by
  obtain ⟨w0, e0, HK, hz⟩ := Kp.box (mkI 2 op nar d a bb u sz t) ht hB
  have hcs := HK.out.cs
  simp only [mkI] at hcs
  obtain ⟨c0, c1, c2, c3, c4, c5, c6, c7, c8⟩ := hcs
  have h1 := rT_l d hf.ld
  have h2 := rT_l a hf.la
  have h3 := rT_l bb hf.lb
  have h4 := dec_len u hf.lu
  have h5 := itoa_l t (by have := hf.lt; omega)
  have h6 := word_l op hf.lw nar
  have h7 := cellT_len [112, 97, 99, 107, 101, 116] a u sz hf.la hf.lu hf.ls
  have h8 := cellT_len [115, 116, 97, 99, 107] a u sz hf.la hf.lu hf.ls
  simp only [List.length_cons, List.length_nil] at h7 h8
  have HE := Lib.hid (show lineT 2 op nar d a bb u sz t = (((rT d) ++ eqT) ++ (rT a)) by simp [lineT, lineP, List.append_assoc])
  have HK0 := Lib.hid HK.out.drew
  have g1 : ¬ (9223372036854775807 < (rT (d : Int)).length + 3) := by omega
  have g2 : ¬ (9223372036854775807 < (rT (d : Int)).length + 3 + (rT (a : Int)).length) := by omega
  clear h1 h2 h3 h4 h5 h6 h7 h8 ht
  simp only [mkI, insV] at e0
  go_enter Tryd.func26, Tryd.ntmps26
  unfold insA insV mkI
  go_wp2_with fail
  clear e0
  go_region_held3 (fun w' => w'.cell? ⟨w.heap.size, 0, none⟩ = some (.int .u8 2) ∧ w'.cell? ⟨w.heap.size, 1, none⟩ = some (.int .u8 (op : Int)) ∧ w'.cell? ⟨w.heap.size, 2, none⟩ = some (.bool nar) ∧ w'.cell? ⟨w.heap.size, 3, none⟩ = some (.int .i64 (d : Int)) ∧ w'.cell? ⟨w.heap.size, 4, none⟩ = some (.int .i64 (a : Int)) ∧ w'.cell? ⟨w.heap.size, 5, none⟩ = some (.int .i64 (bb : Int)) ∧ w'.cell? ⟨w.heap.size, 6, none⟩ = some (.int .u64 (u : Int)) ∧ w'.cell? ⟨w.heap.size, 7, none⟩ = some (.int .i64 (sz : Int)) ∧ w'.cell? ⟨w.heap.size, 8, none⟩ = some (.int .i64 (t : Int))) (exact Kp.cs (Hid.out (by assumption)))
    (first
      | (go_at_call 48; refine (rrN_any _ (by first | exact hf.ld | exact hf.la | exact hf.lb) _ (Kp.tb (Hid.out (by assumption)))).mono ?_; rintro _ w' ⟨rfl, hb'⟩; have HK' := Lib.hid (Kp.step (Hid.out (by assumption)) hb'); clear hb'))
  go_wp2_with fail
  go_ret
  refine ⟨ret_str ?_, Kp.below (Hid.out (by assumption))⟩
  rw [HE.out]
  simp only [mk_app, eqT]
set_option maxHeartbeats 2000000 in
theorem rline3n {B : Nat} (nar : Bool) (d a bb u sz t : Nat) (hf : Ln 13 d a bb u sz t) (w : World) (ht : Tb B w) (hB : B ≤ w.heap.size) :
    Calls Tryd.prog 26 #[insA (mkI 3 13 nar d a bb u sz t)] w fun e w' => e = .returned (.string ⟨(lineT 3 13 nar d a bb u sz t).toArray⟩) ∧ Below w.heap.size w w' := by
  obtain ⟨w0, e0, HK, hz⟩ := Kp.box (mkI 3 13 nar d a bb u sz t) ht hB
  have hcs := HK.out.cs
  simp only [mkI] at hcs
  obtain ⟨c0, c1, c2, c3, c4, c5, c6, c7, c8⟩ := hcs
  have h1 := rT_l d hf.ld
  have h2 := rT_l a hf.la
  have h3 := rT_l bb hf.lb
  have h4 := dec_len u hf.lu
  have h5 := itoa_l t (by have := hf.lt; omega)
  have h6 := word_l 13 hf.lw nar
  have h7 := cellT_len [112, 97, 99, 107, 101, 116] a u sz hf.la hf.lu hf.ls
  have h8 := cellT_len [115, 116, 97, 99, 107] a u sz hf.la hf.lu hf.ls
  simp only [List.length_cons, List.length_nil] at h7 h8
  have HE := Lib.hid (show lineT 3 13 nar d a bb u sz t = (((((rT d) ++ eqT) ++ (wordT 13 nar)) ++ [32]) ++ (rT a)) by simp [lineT, lineP, List.append_assoc])
  have HK0 := Lib.hid HK.out.drew
  have g1 : ¬ (9223372036854775807 < (rT (d : Int)).length + 3) := by omega
  have g2 : ¬ (9223372036854775807 < (rT (d : Int)).length + 3 + (wordT 13 nar).length) := by omega
  have g3 : ¬ (9223372036854775807 < (rT (d : Int)).length + 3 + (wordT 13 nar).length + 1) := by omega
  have g4 : ¬ (9223372036854775807 < (rT (d : Int)).length + 3 + (wordT 13 nar).length + 1 + (rT (a : Int)).length) := by omega
  clear h1 h2 h3 h4 h5 h6 h7 h8 ht
  simp only [mkI, insV] at e0
  replace e0 : w.alloc (.cells #[.int .u8 3, .int .u8 13, .bool nar, .int .i64 (d : Int), .int .i64 (a : Int), .int .i64 (bb : Int), .int .u64 (u : Int), .int .i64 (sz : Int), .int .i64 (t : Int)] 35) = w0 := e0
  go_enter Tryd.func26, Tryd.ntmps26
  unfold insA insV mkI
  go_wp2_with fail
  clear e0
  go_region_held3 (fun w' => w'.cell? ⟨w.heap.size, 0, none⟩ = some (.int .u8 3) ∧ w'.cell? ⟨w.heap.size, 1, none⟩ = some (.int .u8 13) ∧ w'.cell? ⟨w.heap.size, 2, none⟩ = some (.bool nar) ∧ w'.cell? ⟨w.heap.size, 3, none⟩ = some (.int .i64 (d : Int)) ∧ w'.cell? ⟨w.heap.size, 4, none⟩ = some (.int .i64 (a : Int)) ∧ w'.cell? ⟨w.heap.size, 5, none⟩ = some (.int .i64 (bb : Int)) ∧ w'.cell? ⟨w.heap.size, 6, none⟩ = some (.int .u64 (u : Int)) ∧ w'.cell? ⟨w.heap.size, 7, none⟩ = some (.int .i64 (sz : Int)) ∧ w'.cell? ⟨w.heap.size, 8, none⟩ = some (.int .i64 (t : Int))) (exact Kp.cs (Hid.out (by assumption)))
    (first
      | (go_at_call 48; refine (rrN_any _ (by first | exact hf.ld | exact hf.la | exact hf.lb) _ (Kp.tb (Hid.out (by assumption)))).mono ?_; rintro _ w' ⟨rfl, hb'⟩; have HK' := Lib.hid (Kp.step (Hid.out (by assumption)) hb'); clear hb')
      | (go_at_call 49; refine (rword_any 13 nar (by decide) _).mono ?_; rintro _ w' ⟨rfl, hb'⟩; have HK' := Lib.hid (Kp.step (Hid.out (by assumption)) hb'); clear hb'))
  go_wp2_with fail
  go_ret
  refine ⟨ret_str ?_, Kp.below (Hid.out (by assumption))⟩
  rw [HE.out]
  simp only [mk_app, eqT]
set_option maxHeartbeats 2000000 in
theorem rline3 {B : Nat} (op : Nat) (nar : Bool) (d a bb u sz t : Nat) (hf : Ln op d a bb u sz t) (ho : (1 ≤ op ∧ op ≤ 13) ∨ (17 ≤ op ∧ op ≤ 27)) (hop : op ≠ 13) (w : World) (ht : Tb B w) (hB : B ≤ w.heap.size) :
    Calls Tryd.prog 26 #[insA (mkI 3 op nar d a bb u sz t)] w fun e w' => e = .returned (.string ⟨(lineT 3 op nar d a bb u sz t).toArray⟩) ∧ Below w.heap.size w w' := by
  obtain ⟨w0, e0, HK, hz⟩ := Kp.box (mkI 3 op nar d a bb u sz t) ht hB
  have hcs := HK.out.cs
  simp only [mkI] at hcs
  obtain ⟨c0, c1, c2, c3, c4, c5, c6, c7, c8⟩ := hcs
  have h1 := rT_l d hf.ld
  have h2 := rT_l a hf.la
  have h3 := rT_l bb hf.lb
  have h4 := dec_len u hf.lu
  have h5 := itoa_l t (by have := hf.lt; omega)
  have h6 := word_l op hf.lw nar
  have h7 := cellT_len [112, 97, 99, 107, 101, 116] a u sz hf.la hf.lu hf.ls
  have h8 := cellT_len [115, 116, 97, 99, 107] a u sz hf.la hf.lu hf.ls
  simp only [List.length_cons, List.length_nil] at h7 h8
  have HE := Lib.hid (show lineT 3 op nar d a bb u sz t = (((((((rT d) ++ eqT) ++ (rT a)) ++ [32]) ++ (wordT op nar)) ++ [32]) ++ (rT bb)) by simp [lineT, lineP, hop, List.append_assoc])
  have HK0 := Lib.hid HK.out.drew
  have g1 : ¬ (9223372036854775807 < (rT (d : Int)).length + 3) := by omega
  have g2 : ¬ (9223372036854775807 < (rT (d : Int)).length + 3 + (rT (a : Int)).length) := by omega
  have g3 : ¬ (9223372036854775807 < (rT (d : Int)).length + 3 + (rT (a : Int)).length + 1) := by omega
  have g4 : ¬ (9223372036854775807 < (rT (d : Int)).length + 3 + (rT (a : Int)).length + 1 + (wordT op nar).length) := by omega
  have g5 : ¬ (9223372036854775807 < (rT (d : Int)).length + 3 + (rT (a : Int)).length + 1 + (wordT op nar).length + 1) := by omega
  have g6 : ¬ (9223372036854775807 < (rT (d : Int)).length + 3 + (rT (a : Int)).length + 1 + (wordT op nar).length + 1 + (rT (bb : Int)).length) := by omega
  clear h1 h2 h3 h4 h5 h6 h7 h8 ht
  simp only [mkI, insV] at e0
  have hd13 : ((op : Int) == 13) = false := by simp; omega
  go_enter Tryd.func26, Tryd.ntmps26
  unfold insA insV mkI
  go_wp2_with fail
  clear e0
  go_region_held3 (fun w' => w'.cell? ⟨w.heap.size, 0, none⟩ = some (.int .u8 3) ∧ w'.cell? ⟨w.heap.size, 1, none⟩ = some (.int .u8 (op : Int)) ∧ w'.cell? ⟨w.heap.size, 2, none⟩ = some (.bool nar) ∧ w'.cell? ⟨w.heap.size, 3, none⟩ = some (.int .i64 (d : Int)) ∧ w'.cell? ⟨w.heap.size, 4, none⟩ = some (.int .i64 (a : Int)) ∧ w'.cell? ⟨w.heap.size, 5, none⟩ = some (.int .i64 (bb : Int)) ∧ w'.cell? ⟨w.heap.size, 6, none⟩ = some (.int .u64 (u : Int)) ∧ w'.cell? ⟨w.heap.size, 7, none⟩ = some (.int .i64 (sz : Int)) ∧ w'.cell? ⟨w.heap.size, 8, none⟩ = some (.int .i64 (t : Int))) (exact Kp.cs (Hid.out (by assumption)))
    (first
      | (go_at_call 48; refine (rrN_any _ (by first | exact hf.ld | exact hf.la | exact hf.lb) _ (Kp.tb (Hid.out (by assumption)))).mono ?_; rintro _ w' ⟨rfl, hb'⟩; have HK' := Lib.hid (Kp.step (Hid.out (by assumption)) hb'); clear hb')
      | (go_at_call 49; refine (rword_any op nar ho _).mono ?_; rintro _ w' ⟨rfl, hb'⟩; have HK' := Lib.hid (Kp.step (Hid.out (by assumption)) hb'); clear hb'))
  go_wp2_with fail
  go_ret
  refine ⟨ret_str ?_, Kp.below (Hid.out (by assumption))⟩
  rw [HE.out]
  simp only [mk_app, eqT]
set_option maxHeartbeats 2000000 in
theorem rline4 {B : Nat} (op : Nat) (nar : Bool) (d a bb u sz t : Nat) (hf : Ln op d a bb u sz t) (w : World) (ht : Tb B w) (hB : B ≤ w.heap.size) :
    Calls Tryd.prog 26 #[insA (mkI 4 op nar d a bb u sz t)] w fun e w' => e = .returned (.string ⟨(lineT 4 op nar d a bb u sz t).toArray⟩) ∧ Below w.heap.size w w' := by
  obtain ⟨w0, e0, HK, hz⟩ := Kp.box (mkI 4 op nar d a bb u sz t) ht hB
  have hcs := HK.out.cs
  simp only [mkI] at hcs
  obtain ⟨c0, c1, c2, c3, c4, c5, c6, c7, c8⟩ := hcs
  have h1 := rT_l d hf.ld
  have h2 := rT_l a hf.la
  have h3 := rT_l bb hf.lb
  have h4 := dec_len u hf.lu
  have h5 := itoa_l t (by have := hf.lt; omega)
  have h6 := word_l op hf.lw nar
  have h7 := cellT_len [112, 97, 99, 107, 101, 116] a u sz hf.la hf.lu hf.ls
  have h8 := cellT_len [115, 116, 97, 99, 107] a u sz hf.la hf.lu hf.ls
  simp only [List.length_cons, List.length_nil] at h7 h8
  have HE := Lib.hid (show lineT 4 op nar d a bb u sz t = (((rT d) ++ eqT) ++ (cellT [112, 97, 99, 107, 101, 116] a u sz)) by simp [lineT, lineP, List.append_assoc])
  have HK0 := Lib.hid HK.out.drew
  have g1 : ¬ (9223372036854775807 < (rT (d : Int)).length + 3) := by omega
  have g2 : ¬ (9223372036854775807 < (rT (d : Int)).length + 3 + (cellT [112, 97, 99, 107, 101, 116] a u sz).length) := by omega
  clear h1 h2 h3 h4 h5 h6 h7 h8 ht
  simp only [mkI, insV] at e0
  go_enter Tryd.func26, Tryd.ntmps26
  unfold insA insV mkI
  go_wp2_with fail
  clear e0
  go_region_held3 (fun w' => w'.cell? ⟨w.heap.size, 0, none⟩ = some (.int .u8 4) ∧ w'.cell? ⟨w.heap.size, 1, none⟩ = some (.int .u8 (op : Int)) ∧ w'.cell? ⟨w.heap.size, 2, none⟩ = some (.bool nar) ∧ w'.cell? ⟨w.heap.size, 3, none⟩ = some (.int .i64 (d : Int)) ∧ w'.cell? ⟨w.heap.size, 4, none⟩ = some (.int .i64 (a : Int)) ∧ w'.cell? ⟨w.heap.size, 5, none⟩ = some (.int .i64 (bb : Int)) ∧ w'.cell? ⟨w.heap.size, 6, none⟩ = some (.int .u64 (u : Int)) ∧ w'.cell? ⟨w.heap.size, 7, none⟩ = some (.int .i64 (sz : Int)) ∧ w'.cell? ⟨w.heap.size, 8, none⟩ = some (.int .i64 (t : Int))) (exact Kp.cs (Hid.out (by assumption)))
    (first
      | (go_at_call 48; refine (rrN_any _ (by first | exact hf.ld | exact hf.la | exact hf.lb) _ (Kp.tb (Hid.out (by assumption)))).mono ?_; rintro _ w' ⟨rfl, hb'⟩; have HK' := Lib.hid (Kp.step (Hid.out (by assumption)) hb'); clear hb')
      | (go_at_call 50; refine (rcell_any [112, 97, 99, 107, 101, 116] (by decide) 4 op nar d a bb u sz t hf _ (Kp.tb (Hid.out (by assumption))) (Kp.hB (Hid.out (by assumption)))).mono ?_; rintro _ w' ⟨rfl, hb'⟩; have HK' := Lib.hid (Kp.step (Hid.out (by assumption)) hb'); clear hb'))
  go_wp2_with fail
  go_ret
  refine ⟨ret_str ?_, Kp.below (Hid.out (by assumption))⟩
  rw [HE.out]
  simp only [mk_app, eqT]
set_option maxHeartbeats 2000000 in
theorem rline5 {B : Nat} (op : Nat) (nar : Bool) (d a bb u sz t : Nat) (hf : Ln op d a bb u sz t) (w : World) (ht : Tb B w) (hB : B ≤ w.heap.size) :
    Calls Tryd.prog 26 #[insA (mkI 5 op nar d a bb u sz t)] w fun e w' => e = .returned (.string ⟨(lineT 5 op nar d a bb u sz t).toArray⟩) ∧ Below w.heap.size w w' := by
  obtain ⟨w0, e0, HK, hz⟩ := Kp.box (mkI 5 op nar d a bb u sz t) ht hB
  have hcs := HK.out.cs
  simp only [mkI] at hcs
  obtain ⟨c0, c1, c2, c3, c4, c5, c6, c7, c8⟩ := hcs
  have h1 := rT_l d hf.ld
  have h2 := rT_l a hf.la
  have h3 := rT_l bb hf.lb
  have h4 := dec_len u hf.lu
  have h5 := itoa_l t (by have := hf.lt; omega)
  have h6 := word_l op hf.lw nar
  have h7 := cellT_len [112, 97, 99, 107, 101, 116] a u sz hf.la hf.lu hf.ls
  have h8 := cellT_len [115, 116, 97, 99, 107] a u sz hf.la hf.lu hf.ls
  simp only [List.length_cons, List.length_nil] at h7 h8
  have HE := Lib.hid (show lineT 5 op nar d a bb u sz t = (((rT d) ++ eqT) ++ (cellT [115, 116, 97, 99, 107] a u sz)) by simp [lineT, lineP, List.append_assoc])
  have HK0 := Lib.hid HK.out.drew
  have g1 : ¬ (9223372036854775807 < (rT (d : Int)).length + 3) := by omega
  have g2 : ¬ (9223372036854775807 < (rT (d : Int)).length + 3 + (cellT [115, 116, 97, 99, 107] a u sz).length) := by omega
  clear h1 h2 h3 h4 h5 h6 h7 h8 ht
  simp only [mkI, insV] at e0
  go_enter Tryd.func26, Tryd.ntmps26
  unfold insA insV mkI
  go_wp2_with fail
  clear e0
  go_region_held3 (fun w' => w'.cell? ⟨w.heap.size, 0, none⟩ = some (.int .u8 5) ∧ w'.cell? ⟨w.heap.size, 1, none⟩ = some (.int .u8 (op : Int)) ∧ w'.cell? ⟨w.heap.size, 2, none⟩ = some (.bool nar) ∧ w'.cell? ⟨w.heap.size, 3, none⟩ = some (.int .i64 (d : Int)) ∧ w'.cell? ⟨w.heap.size, 4, none⟩ = some (.int .i64 (a : Int)) ∧ w'.cell? ⟨w.heap.size, 5, none⟩ = some (.int .i64 (bb : Int)) ∧ w'.cell? ⟨w.heap.size, 6, none⟩ = some (.int .u64 (u : Int)) ∧ w'.cell? ⟨w.heap.size, 7, none⟩ = some (.int .i64 (sz : Int)) ∧ w'.cell? ⟨w.heap.size, 8, none⟩ = some (.int .i64 (t : Int))) (exact Kp.cs (Hid.out (by assumption)))
    (first
      | (go_at_call 48; refine (rrN_any _ (by first | exact hf.ld | exact hf.la | exact hf.lb) _ (Kp.tb (Hid.out (by assumption)))).mono ?_; rintro _ w' ⟨rfl, hb'⟩; have HK' := Lib.hid (Kp.step (Hid.out (by assumption)) hb'); clear hb')
      | (go_at_call 50; refine (rcell_any [115, 116, 97, 99, 107] (by decide) 5 op nar d a bb u sz t hf _ (Kp.tb (Hid.out (by assumption))) (Kp.hB (Hid.out (by assumption)))).mono ?_; rintro _ w' ⟨rfl, hb'⟩; have HK' := Lib.hid (Kp.step (Hid.out (by assumption)) hb'); clear hb'))
  go_wp2_with fail
  go_ret
  refine ⟨ret_str ?_, Kp.below (Hid.out (by assumption))⟩
  rw [HE.out]
  simp only [mk_app, eqT]
set_option maxHeartbeats 2000000 in
theorem rline6 {B : Nat} (op : Nat) (nar : Bool) (d a bb u sz t : Nat) (hf : Ln op d a bb u sz t) (w : World) (ht : Tb B w) (hB : B ≤ w.heap.size) :
    Calls Tryd.prog 26 #[insA (mkI 6 op nar d a bb u sz t)] w fun e w' => e = .returned (.string ⟨(lineT 6 op nar d a bb u sz t).toArray⟩) ∧ Below w.heap.size w w' := by
  obtain ⟨w0, e0, HK, hz⟩ := Kp.box (mkI 6 op nar d a bb u sz t) ht hB
  have hcs := HK.out.cs
  simp only [mkI] at hcs
  obtain ⟨c0, c1, c2, c3, c4, c5, c6, c7, c8⟩ := hcs
  have h1 := rT_l d hf.ld
  have h2 := rT_l a hf.la
  have h3 := rT_l bb hf.lb
  have h4 := dec_len u hf.lu
  have h5 := itoa_l t (by have := hf.lt; omega)
  have h6 := word_l op hf.lw nar
  have h7 := cellT_len [112, 97, 99, 107, 101, 116] a u sz hf.la hf.lu hf.ls
  have h8 := cellT_len [115, 116, 97, 99, 107] a u sz hf.la hf.lu hf.ls
  simp only [List.length_cons, List.length_nil] at h7 h8
  have HE := Lib.hid (show lineT 6 op nar d a bb u sz t = (((cellT [115, 116, 97, 99, 107] a u sz) ++ eqT) ++ (rT bb)) by simp [lineT, lineP, List.append_assoc])
  have HK0 := Lib.hid HK.out.drew
  have g1 : ¬ (9223372036854775807 < (cellT [115, 116, 97, 99, 107] a u sz).length + 3) := by omega
  have g2 : ¬ (9223372036854775807 < (cellT [115, 116, 97, 99, 107] a u sz).length + 3 + (rT (bb : Int)).length) := by omega
  clear h1 h2 h3 h4 h5 h6 h7 h8 ht
  simp only [mkI, insV] at e0
  go_enter Tryd.func26, Tryd.ntmps26
  unfold insA insV mkI
  go_wp2_with fail
  clear e0
  go_region_held3 (fun w' => w'.cell? ⟨w.heap.size, 0, none⟩ = some (.int .u8 6) ∧ w'.cell? ⟨w.heap.size, 1, none⟩ = some (.int .u8 (op : Int)) ∧ w'.cell? ⟨w.heap.size, 2, none⟩ = some (.bool nar) ∧ w'.cell? ⟨w.heap.size, 3, none⟩ = some (.int .i64 (d : Int)) ∧ w'.cell? ⟨w.heap.size, 4, none⟩ = some (.int .i64 (a : Int)) ∧ w'.cell? ⟨w.heap.size, 5, none⟩ = some (.int .i64 (bb : Int)) ∧ w'.cell? ⟨w.heap.size, 6, none⟩ = some (.int .u64 (u : Int)) ∧ w'.cell? ⟨w.heap.size, 7, none⟩ = some (.int .i64 (sz : Int)) ∧ w'.cell? ⟨w.heap.size, 8, none⟩ = some (.int .i64 (t : Int))) (exact Kp.cs (Hid.out (by assumption)))
    (first
      | (go_at_call 50; refine (rcell_any [115, 116, 97, 99, 107] (by decide) 6 op nar d a bb u sz t hf _ (Kp.tb (Hid.out (by assumption))) (Kp.hB (Hid.out (by assumption)))).mono ?_; rintro _ w' ⟨rfl, hb'⟩; have HK' := Lib.hid (Kp.step (Hid.out (by assumption)) hb'); clear hb')
      | (go_at_call 48; refine (rrN_any _ (by first | exact hf.ld | exact hf.la | exact hf.lb) _ (Kp.tb (Hid.out (by assumption)))).mono ?_; rintro _ w' ⟨rfl, hb'⟩; have HK' := Lib.hid (Kp.step (Hid.out (by assumption)) hb'); clear hb'))
  go_wp2_with fail
  go_ret
  refine ⟨ret_str ?_, Kp.below (Hid.out (by assumption))⟩
  rw [HE.out]
  simp only [mk_app, eqT]
set_option maxHeartbeats 2000000 in
theorem rline7 {B : Nat} (op : Nat) (nar : Bool) (d a bb u sz t : Nat) (hf : Ln op d a bb u sz t) (w : World) (ht : Tb B w) (hB : B ≤ w.heap.size) :
    Calls Tryd.prog 26 #[insA (mkI 7 op nar d a bb u sz t)] w fun e w' => e = .returned (.string ⟨(lineT 7 op nar d a bb u sz t).toArray⟩) ∧ Below w.heap.size w w' := by
  obtain ⟨w0, e0, HK, hz⟩ := Kp.box (mkI 7 op nar d a bb u sz t) ht hB
  have hcs := HK.out.cs
  simp only [mkI] at hcs
  obtain ⟨c0, c1, c2, c3, c4, c5, c6, c7, c8⟩ := hcs
  have h1 := rT_l d hf.ld
  have h2 := rT_l a hf.la
  have h3 := rT_l bb hf.lb
  have h4 := dec_len u hf.lu
  have h5 := itoa_l t (by have := hf.lt; omega)
  have h6 := word_l op hf.lw nar
  have h7 := cellT_len [112, 97, 99, 107, 101, 116] a u sz hf.la hf.lu hf.ls
  have h8 := cellT_len [115, 116, 97, 99, 107] a u sz hf.la hf.lu hf.ls
  simp only [List.length_cons, List.length_nil] at h7 h8
  have HE := Lib.hid (show lineT 7 op nar d a bb u sz t = ([103, 111, 116, 111, 32] ++ (Lib.itoa t)) by simp [lineT, lineP])
  have HK0 := Lib.hid HK.out.drew
  have g1 : ¬ (9223372036854775807 < 5 + (Lib.itoa (t : Int)).length) := by omega
  clear h1 h2 h3 h4 h5 h6 h7 h8 ht
  simp only [mkI, insV] at e0
  go_enter Tryd.func26, Tryd.ntmps26
  unfold insA insV mkI
  go_wp2_with fail
  clear e0
  go_at_call 23; refine (itoaN_any t (Nat.le_trans hf.lt (by decide)) _ (Kp.tb (Hid.out (by assumption)))).mono ?_; rintro _ w' ⟨rfl, hb'⟩; have HK' := Lib.hid (Kp.step (Hid.out (by assumption)) hb'); clear hb'
  go_wp2_with fail
  go_ret
  refine ⟨ret_str ?_, Kp.below (Hid.out (by assumption))⟩
  rw [HE.out]
  simp only [mk_app]
set_option maxHeartbeats 2000000 in
theorem rline8 {B : Nat} (op : Nat) (nar : Bool) (d a bb u sz t : Nat) (hf : Ln op d a bb u sz t) (ho : (1 ≤ op ∧ op ≤ 13) ∨ (17 ≤ op ∧ op ≤ 27)) (w : World) (ht : Tb B w) (hB : B ≤ w.heap.size) :
    Calls Tryd.prog 26 #[insA (mkI 8 op nar d a bb u sz t)] w fun e w' => e = .returned (.string ⟨(lineT 8 op nar d a bb u sz t).toArray⟩) ∧ Below w.heap.size w w' := by
  obtain ⟨w0, e0, HK, hz⟩ := Kp.box (mkI 8 op nar d a bb u sz t) ht hB
  have hcs := HK.out.cs
  simp only [mkI] at hcs
  obtain ⟨c0, c1, c2, c3, c4, c5, c6, c7, c8⟩ := hcs
  have h1 := rT_l d hf.ld
  have h2 := rT_l a hf.la
  have h3 := rT_l bb hf.lb
  have h4 := dec_len u hf.lu
  have h5 := itoa_l t (by have := hf.lt; omega)
  have h6 := word_l op hf.lw nar
  have h7 := cellT_len [112, 97, 99, 107, 101, 116] a u sz hf.la hf.lu hf.ls
  have h8 := cellT_len [115, 116, 97, 99, 107] a u sz hf.la hf.lu hf.ls
  simp only [List.length_cons, List.length_nil] at h7 h8
  have HE := Lib.hid (show lineT 8 op nar d a bb u sz t = ((((((([105, 102, 32] ++ (rT a)) ++ [32]) ++ (wordT op nar)) ++ [32]) ++ (rT bb)) ++ [32, 103, 111, 116, 111, 32]) ++ (Lib.itoa t)) by simp [lineT, lineP, List.append_assoc])
  have HK0 := Lib.hid HK.out.drew
  have g1 : ¬ (9223372036854775807 < 3 + (rT (a : Int)).length) := by omega
  have g2 : ¬ (9223372036854775807 < 3 + (rT (a : Int)).length + 1) := by omega
  have g3 : ¬ (9223372036854775807 < 3 + (rT (a : Int)).length + 1 + (wordT op nar).length) := by omega
  have g4 : ¬ (9223372036854775807 < 3 + (rT (a : Int)).length + 1 + (wordT op nar).length + 1) := by omega
  have g5 : ¬ (9223372036854775807 < 3 + (rT (a : Int)).length + 1 + (wordT op nar).length + 1 + (rT (bb : Int)).length) := by omega
  have g6 : ¬ (9223372036854775807 < 3 + (rT (a : Int)).length + 1 + (wordT op nar).length + 1 + (rT (bb : Int)).length + 6) := by omega
  have g7 : ¬ (9223372036854775807 < 3 + (rT (a : Int)).length + 1 + (wordT op nar).length + 1 + (rT (bb : Int)).length + 6 + (Lib.itoa (t : Int)).length) := by omega
  clear h1 h2 h3 h4 h5 h6 h7 h8 ht
  simp only [mkI, insV] at e0
  go_enter Tryd.func26, Tryd.ntmps26
  unfold insA insV mkI
  go_wp2_with fail
  clear e0
  go_region_held3 (fun w' => w'.cell? ⟨w.heap.size, 0, none⟩ = some (.int .u8 8) ∧ w'.cell? ⟨w.heap.size, 1, none⟩ = some (.int .u8 (op : Int)) ∧ w'.cell? ⟨w.heap.size, 2, none⟩ = some (.bool nar) ∧ w'.cell? ⟨w.heap.size, 3, none⟩ = some (.int .i64 (d : Int)) ∧ w'.cell? ⟨w.heap.size, 4, none⟩ = some (.int .i64 (a : Int)) ∧ w'.cell? ⟨w.heap.size, 5, none⟩ = some (.int .i64 (bb : Int)) ∧ w'.cell? ⟨w.heap.size, 6, none⟩ = some (.int .u64 (u : Int)) ∧ w'.cell? ⟨w.heap.size, 7, none⟩ = some (.int .i64 (sz : Int)) ∧ w'.cell? ⟨w.heap.size, 8, none⟩ = some (.int .i64 (t : Int))) (exact Kp.cs (Hid.out (by assumption)))
    (first
      | (go_at_call 48; refine (rrN_any _ (by first | exact hf.ld | exact hf.la | exact hf.lb) _ (Kp.tb (Hid.out (by assumption)))).mono ?_; rintro _ w' ⟨rfl, hb'⟩; have HK' := Lib.hid (Kp.step (Hid.out (by assumption)) hb'); clear hb')
      | (go_at_call 49; refine (rword_any op nar ho _).mono ?_; rintro _ w' ⟨rfl, hb'⟩; have HK' := Lib.hid (Kp.step (Hid.out (by assumption)) hb'); clear hb')
      | (go_at_call 23; refine (itoaN_any t (Nat.le_trans hf.lt (by decide)) _ (Kp.tb (Hid.out (by assumption)))).mono ?_; rintro _ w' ⟨rfl, hb'⟩; have HK' := Lib.hid (Kp.step (Hid.out (by assumption)) hb'); clear hb'))
  go_wp2_with fail
  go_ret
  refine ⟨ret_str ?_, Kp.below (Hid.out (by assumption))⟩
  rw [HE.out]
  simp only [mk_app]
set_option maxHeartbeats 2000000 in
theorem rline9 {B : Nat} (op : Nat) (nar : Bool) (d a bb u sz t : Nat) (hf : Ln op d a bb u sz t) (w : World) (ht : Tb B w) (hB : B ≤ w.heap.size) :
    Calls Tryd.prog 26 #[insA (mkI 9 op nar d a bb u sz t)] w fun e w' => e = .returned (.string ⟨(lineT 9 op nar d a bb u sz t).toArray⟩) ∧ Below w.heap.size w w' := by
  obtain ⟨w0, e0, HK, hz⟩ := Kp.box (mkI 9 op nar d a bb u sz t) ht hB
  have hcs := HK.out.cs
  simp only [mkI] at hcs
  obtain ⟨c0, c1, c2, c3, c4, c5, c6, c7, c8⟩ := hcs
  have h1 := rT_l d hf.ld
  have h2 := rT_l a hf.la
  have h3 := rT_l bb hf.lb
  have h4 := dec_len u hf.lu
  have h5 := itoa_l t (by have := hf.lt; omega)
  have h6 := word_l op hf.lw nar
  have h7 := cellT_len [112, 97, 99, 107, 101, 116] a u sz hf.la hf.lu hf.ls
  have h8 := cellT_len [115, 116, 97, 99, 107] a u sz hf.la hf.lu hf.ls
  simp only [List.length_cons, List.length_nil] at h7 h8
  have HE := Lib.hid (show lineT 9 op nar d a bb u sz t = ([101, 110, 100, 32] ++ (rT a)) by simp [lineT, lineP])
  have HK0 := Lib.hid HK.out.drew
  have g1 : ¬ (9223372036854775807 < 4 + (rT (a : Int)).length) := by omega
  clear h1 h2 h3 h4 h5 h6 h7 h8 ht
  simp only [mkI, insV] at e0
  go_enter Tryd.func26, Tryd.ntmps26
  unfold insA insV mkI
  go_wp2_with fail
  clear e0
  go_at_call 48; refine (rrN_any a hf.la _ (Kp.tb (Hid.out (by assumption)))).mono ?_; rintro _ w' ⟨rfl, hb'⟩; have HK' := Lib.hid (Kp.step (Hid.out (by assumption)) hb'); clear hb'
  go_wp2_with fail
  go_ret
  refine ⟨ret_str ?_, Kp.below (Hid.out (by assumption))⟩
  rw [HE.out]
  simp only [mk_app]
end Go.Proofs.YtdhfdlelnkoomaaDoor
