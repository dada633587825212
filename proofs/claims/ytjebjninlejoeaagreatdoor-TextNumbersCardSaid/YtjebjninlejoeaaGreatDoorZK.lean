/- text, the walk: rows of instructions, alike or not; Show of any. text, the walk: awake. -/
import Derived.Test.YtjebjninlejoeaaGreatDoorZG
import Derived.Test.YtjebjninlejoeaaGreatDoorZJ
namespace Go.Proofs.YtjebjninlejoeaaGreatDoor
open Go.RowKit Go.Maps Go.ChangeMaps
set_option linter.unusedVariables false
set_option linter.unusedSimpArgs false
set_option linter.unusedSectionVars false
set_option maxRecDepth 100000

theorem Ivs.of_own {w : World} {D : Nat} {v : Value} {l : List IV} (h : w.ownsRow D 40 8 v l.length (outC l)) : ∃ A c, v = .slice A l.length c ∧ Ivs w (fun b => D ≤ b ∧ b < w.heap.size) A c l := by
  rcases h.2 with ⟨hv, h0⟩ | ⟨g, cap, cur, hv, hb, hc, h1, h2⟩
  · refine ⟨none, 0, by rw [h0]; exact hv, by omega, fun hx => absurd (List.eq_nil_of_length_eq_zero h0) hx⟩
  · refine ⟨some ⟨g, 0, none⟩, cap, hv, h1, fun _ => ⟨g, 0, rfl, ⟨hb, blk_lt hc⟩, fun j i hj m u hm => ?_⟩⟩
    subst hv
    have hm8 : m < 8 := (List.getElem?_eq_some_iff.1 hm).1
    rw [Nat.zero_add]
    exact (ins_at h (Nat.le_refl _) hj hm8).trans hm
theorem neq_iv (a1 : Int) (a2 : Bool) (a3 a4 : Int) (a5 : Bool) (a6 a7 a8 b1 : Int) (b2 : Bool) (b3 b4 : Int) (b5 : Bool) (b6 b7 b8 : Int) (w : World) :
    (binOp .neq 40 (.agg #[.int .u8 a1, .bool a2, .int .i64 a3, .int .i64 a4, .bool a5, .int .i64 a6, .int .i64 a7, .int .i64 a8]) (.agg #[.int .u8 b1, .bool b2, .int .i64 b3, .int .i64 b4, .bool b5, .int .i64 b6, .int .i64 b7, .int .i64 b8])).run Tryz.prog w = .ok (.bool (!decide ((⟨a1, a2, a3, a4, a5, a6, a7, a8⟩ : IV) = ⟨b1, b2, b3, b4, b5, b6, b7, b8⟩))) w := by
  have h := eql_iv a1 a2 a3 a4 a5 a6 a7 a8 b1 b2 b3 b4 b5 b6 b7 b8 w
  rw [run_eql_struct] at h
  rw [run_neq_struct]
  revert h
  generalize (Op.equalIn 10000 40 _ _).run Tryz.prog w = r
  intro h
  cases r with
  | ok b w' =>
    simp only [Result.andThen_ok] at h ⊢
    injection h with h1 h2
    injection h1 with h1
    subst h1 h2
    rfl
  | _ => simp [Result.andThen] at h
set_option maxHeartbeats 1000000 in
theorem sameIns_any {K K' : Nat → Prop} (A B : Option Addr) (c d : Nat) (l m : List IV) (w : World) (h : Ivs w K A c l) (h' : Ivs w K' B d m) (hl : l.length ≤ 100000) (hm : m.length ≤ 100000) : Calls Tryz.prog 17 #[.slice A l.length c, .slice B m.length d] w fun e w' => e = .returned (.bool (decide (l = m))) ∧ Below w.heap.size w w' := by
  by_cases hlm : l.length = m.length
  · have q0 : ¬ ¬ ((l.length : Int) = (m.length : Int)) := by omega
    have HM := Lib.hid hm
    have HLM := Lib.hid hlm
    rw [← hlm]
    clear hm hlm q0
    go_enter Tryz.func17, Tryz.ntmps17
    go_wp2_with fail
    go_loopw [5] (fun i wr => ∃ k : Nat, k ≤ l.length ∧ i = .int .i64 k ∧ Hid (l.take k = m.take k) ∧ Hid (Below w.heap.size w wr)) (fun i _ => l.length - (intOf i).toNat)
    case atStart => exact ⟨0, Nat.zero_le _, rfl, Lib.hid rfl, Lib.hid (Below.refl _ _)⟩
    case round =>
      obtain ⟨k, hk, rfl, HT, HB⟩ := hrel
      by_cases hlt : k < l.length
      · have d1 : decide ((k : Int) < (l.length : Int)) = true := decide_eq_true (by omega)
        obtain ⟨i, hi⟩ : ∃ i, l[k]? = some i := ⟨l[k], List.getElem?_eq_getElem hlt⟩
        obtain ⟨j, hj⟩ : ∃ j, m[k]? = some j := ⟨m[k]'(by have := HLM.out; omega), List.getElem?_eq_getElem _⟩
        obtain ⟨g, o, rfl, c0, c1, c2, c3, c4, c5, c6, c7⟩ := (h.below HB.out).at_ hi
        obtain ⟨g', o', rfl, e0, e1, e2, e3, e4, e5, e6, e7⟩ := (h'.below HB.out).at_ hj
        have q1 : (0 : Int) ≤ (k : Int) := by omega
        have q2 : (k : Int) < (l.length : Int) := by omega
        have HD := Lib.hid (HB.out.drew)
        have HIJ := Lib.hid (And.intro hi hj)
        obtain ⟨i1, i2, i3, i4, i5, i6, i7, i8⟩ := i
        obtain ⟨j1, j2, j3, j4, j5, j6, j7, j8⟩ := j
        have hq := neq_iv i1 i2 i3 i4 i5 i6 i7 i8 j1 j2 j3 j4 j5 j6 j7 j8
        clear hi hj
        by_cases hij : (⟨i1, i2, i3, i4, i5, i6, i7, i8⟩ : IV) = ⟨j1, j2, j3, j4, j5, j6, j7, j8⟩
        · rw [decide_eq_true hij] at hq
          have HT2 := Lib.hid (show l.take (k + 1) = m.take (k + 1) by rw [List.take_add_one, List.take_add_one, HIJ.out.1, HIJ.out.2, HT.out, hij])
          clear hij HIJ
          simp only [Bool.not_true] at hq
          go_wp2_with fail
          go_region
          all_goals
            go_wp2_with fail
            go_roundw
            case rel => exact ⟨k + 1, by omega, by go_num, HT2, HD⟩
            case measure => simp [intOf]; omega
        · rw [decide_eq_false hij] at hq
          have HN := Lib.hid (show decide (l = m) = false from decide_eq_false (fun e => by
            have h1 := HIJ.out.1
            rw [e, HIJ.out.2] at h1
            injection h1 with h1
            exact hij h1.symm))
          clear hij HIJ
          simp only [Bool.not_false] at hq
          go_wp2_with fail
          go_region
          all_goals
            go_wp2_with fail
            go_ret
            exact ⟨by rw [HN.out]; rfl, HD.out⟩
      · have d1 : decide ((k : Int) < (l.length : Int)) = false := decide_eq_false (by omega)
        have hN : l = m := by
          have := HT.out
          rw [List.take_of_length_le (by omega), List.take_of_length_le (by have := HLM.out; omega)] at this
          exact this
        have HN := Lib.hid (decide_eq_true hN)
        clear hN
        go_wp2_with fail
        go_ret
        exact ⟨by rw [HN.out]; rfl, HB.out⟩
  · have q0 : ¬ ((l.length : Int) = (m.length : Int)) := by omega
    have HN := Lib.hid (show decide (l = m) = false from decide_eq_false (fun e => hlm (by rw [e])))
    go_enter Tryz.func17, Tryz.ntmps17
    go_wp2_with fail
    go_ret
    exact ⟨by rw [HN.out]; rfl, Below.refl _ _⟩
/-- What Show tells of any instructions. -/
def showR (l : List IV) : Nm × Int := if 4096 < l.length then ([], 3) else if l.all rightP then (showP l, 0) else ([], 4)
theorem show_all {B : Nat} {K : Nat → Prop} (A : Option Addr) (c : Nat) (l : List IV) (w : World) (h : Ivs w K A c l) (hv : Tv B w) (hB : B ≤ w.heap.size) : Calls Tryz.prog 13 #[.slice A l.length c] w fun e w' => e = .returned (.tuple #[.string ⟨(showR l).1.toArray⟩, .int .i64 (showR l).2]) ∧ Below w.heap.size w w' := by
  unfold showR
  by_cases h1 : 4096 < l.length
  · rw [if_pos h1]
    exact show_long A c _ h1 w
  · rw [if_neg h1]
    cases h2 : l.all rightP with
    | true => exact show_right A c l w (by omega) h h2 hv hB
    | false => exact show_wrong A c l w (by omega) h h2
end Go.Proofs.YtjebjninlejoeaaGreatDoor
namespace Go.Proofs.YtjebjninlejoeaaGreatDoor
open Go.RowKit Go.Maps Go.ChangeMaps
set_option linter.unusedVariables false
set_option linter.unusedSimpArgs false
set_option linter.unusedSectionVars false
set_option maxRecDepth 100000

def aw1 : Nm := [109, 111, 118, 32, 114, 48, 44, 32, 49, 10, 106, 101, 113, 51, 50, 32, 114, 50, 44, 32, 45, 53, 44, 32, 101, 110, 100, 10, 108, 111, 97, 100, 50, 32, 114, 51, 44, 32, 91, 114, 49, 32, 43, 32, 49, 50, 93, 10, 112, 117, 116, 56, 32, 91, 114, 49, 48, 32, 45, 32, 56, 93, 44, 32, 114, 51, 10, 101, 110, 100, 58, 10, 101, 120, 105, 116]
def aw2 : Nm := [106, 117, 109, 112, 32, 104, 101, 114, 101]
def aw3 : Nm := [97, 100, 100, 32, 114, 49, 48, 44, 32, 49]
def aw4 : Nm := [106, 101, 113, 51, 50, 32, 114, 50, 44, 32, 45, 53, 44, 32, 43, 50, 10]
def awI : IV := ⟨17, true, 2, 0, true, 2, -5, 0⟩
def awL : List IV := [⟨12, false, 0, 0, true, 0, 1, 0⟩, awI, ⟨14, false, 3, 1, false, 12, 0, 2⟩, ⟨15, false, 10, 3, false, -8, 0, 8⟩, ⟨28, false, 0, 0, false, 0, 0, 0⟩]
theorem aw1_is : parseP aw1 = .ok awL := by kernel_rfl
theorem aw2_is : parseP aw2 = .error (121, 1) := by kernel_rfl
theorem aw3_is : parseP aw3 = .error (120, 1) := by kernel_rfl
theorem aw4_is : showR [awI] = (aw4, 0) := by
  have h1 : Lib.itoa 2 = [50] := itoa_lit 2 (by decide)
  have h2 : Lib.itoa (-5) = [45, 53] := by rw [itoa_minus (by decide)]; rw [show Lib.decDigits (-5 : Int).natAbs = Lib.decDigits 5 from rfl, Lib.decDigits_one (by decide)]; rfl
  have h3 : [awI].all rightP = true := by kernel_rfl
  unfold showR
  rw [if_neg (by decide), if_pos h3]
  simp [showP, showI, awI, firstS, baseS, regN, lastS, apartS, h1, h2, n32, qus, aw4]
theorem neq_ft (a b c d : Int) (w : World) : (binOp .neq 26 (.agg #[.int .i64 a, .int .i64 b]) (.agg #[.int .i64 c, .int .i64 d])).run Tryz.prog w = .ok (.bool (!((a == c) && (b == d)))) w := by
  rw [run_neq_struct]
  have h1 : Tryz.prog.underlying 26 = some (.struct (Tryz.prog.fieldsOf 26)) := by kernel_rfl
  have h2 : Tryz.prog.stoodInHeld 26 = false := by kernel_rfl
  rw [run_equalIn_struct w 9999 26 _ _ h1 h2]
  simp [go_sem, Program.fieldsOf, Op.eqFields]
  repeat' split
  all_goals simp_all
theorem Ivs.one {w : World} {K : Nat → Prop} {g o c : Nat} {l : List IV} {k : Nat} {i : IV} (h : Ivs w K (some ⟨g, o, none⟩) c l) (hk : l[k]? = some i) : Ivs w K (some ⟨g, o + k * 8, none⟩) (c - k) [i] := by
  obtain ⟨g', o', e, hg, hc⟩ := h.2 (by rintro rfl; simp at hk)
  injection e with e
  injection e with e1 e2
  subst e1 e2
  have hlt : k < l.length := (List.getElem?_eq_some_iff.1 hk).1
  refine ⟨by have := h.1; simp; omega, fun _ => ⟨g, o + k * 8, rfl, hg, fun j x hj m v hm => ?_⟩⟩
  cases j with
  | succ j => simp at hj
  | zero =>
    simp at hj
    subst hj
    simpa using hc k _ hk m v hm
set_option maxHeartbeats 2000000 in
theorem awake_any {B : Nat} (w : World) (hv : Tv B w) (hB : B ≤ w.heap.size) : Calls Tryz.prog 8 #[] w fun e w' => e = .returned (.bool true) ∧ Below w.heap.size w w' := by
  have hP1 := fun W h1 h2 => parse_any aw1 (by decide) (B := B) W h1 h2
  have hP2 := fun W h1 h2 => parse_any aw2 (by decide) (B := B) W h1 h2
  have hP3 := fun W h1 h2 => parse_any aw3 (by decide) (B := B) W h1 h2
  rw [aw1_is] at hP1
  rw [aw2_is] at hP2
  rw [aw3_is] at hP3
  unfold aw1 at hP1
  unfold aw2 at hP2
  unfold aw3 at hP3
  go_enter Tryz.func8, Tryz.ntmps8
  go_wp2_with fail
  (with_reducible refine (hP1 _ hv hB).mono ?_)
  rintro _ w1 ⟨b1, v1, rfl, h1⟩
  obtain ⟨g, cp, rfl⟩ := own_form h1 (by decide)
  obtain ⟨A1, c1, e1, hI⟩ := Ivs.of_own h1
  injection e1 with e1 e2 e3
  subst e1 e3
  have HB1 := Lib.hid b1
  have HI := Lib.hid hI
  clear b1 h1 hI e2
  unfold ftV
  go_wp2_with fail
  have HF1 := Lib.hid (Bk.new w1 26 [.int .i64 0, .int .i64 0])
  have HI2 := Lib.hid (HI.out.below ((Below.refl _ _).alloc (Nat.le_refl _) (.cells #[.int .i64 0, .int .i64 0] 26)))
  have HB2 := Lib.hid (HB1.out.alloc HB1.out.size (.cells #[.int .i64 0, .int .i64 0] 26))
  generalize hF1 : w1.heap.size = F1 at *
  generalize (w1.alloc (.cells #[.int .i64 0, .int .i64 0] 26)) = wa at *
  clear HB1 HI hF1
  (with_reducible refine (hP2 _ (hv.below HB2.out hB) (Nat.le_trans hB HB2.out.size)).mono ?_)
  rintro _ w2 ⟨b2, rfl⟩
  have HF1 := Lib.hid (HF1.out.below b2 HF1.out.lt)
  have HI := Lib.hid (HI2.out.below b2)
  have HB := Lib.hid (HB2.out.trans (b2.mono HB2.out.size))
  clear b2 HI2 HB2
  unfold ftV
  go_wp2_with fail
  have HF2 := Lib.hid (Bk.new w2 26 [.int .i64 121, .int .i64 1])
  have HF1 := Lib.hid (HF1.out.below ((Below.refl _ _).alloc (Nat.le_refl _) (.cells #[.int .i64 121, .int .i64 1] 26)) HF1.out.lt)
  have HI2 := Lib.hid (HI.out.below ((Below.refl _ _).alloc (Nat.le_refl _) (.cells #[.int .i64 121, .int .i64 1] 26)))
  have HB2 := Lib.hid (HB.out.alloc HB.out.size (.cells #[.int .i64 121, .int .i64 1] 26))
  generalize hF1 : w2.heap.size = F2 at *
  generalize (w2.alloc (.cells #[.int .i64 121, .int .i64 1] 26)) = wb at *
  clear HB HI hF1
  (with_reducible refine (hP3 _ (hv.below HB2.out hB) (Nat.le_trans hB HB2.out.size)).mono ?_)
  rintro _ w3 ⟨b3, rfl⟩
  have HF1 := Lib.hid (HF1.out.below b3 HF1.out.lt)
  have HF2 := Lib.hid (HF2.out.below b3 HF2.out.lt)
  have HI := Lib.hid (HI2.out.below b3)
  have HB := Lib.hid (HB2.out.trans (b3.mono HB2.out.size))
  clear b3 HI2 HB2
  unfold ftV
  have HF3 := Lib.hid (Bk.new w3 26 [.int .i64 120, .int .i64 1])
  have HF1 := Lib.hid (HF1.out.below ((Below.refl _ _).alloc (Nat.le_refl _) (.cells #[.int .i64 120, .int .i64 1] 26)) HF1.out.lt)
  have HF2 := Lib.hid (HF2.out.below ((Below.refl _ _).alloc (Nat.le_refl _) (.cells #[.int .i64 120, .int .i64 1] 26)) HF2.out.lt)
  have HI2 := Lib.hid (HI.out.below ((Below.refl _ _).alloc (Nat.le_refl _) (.cells #[.int .i64 120, .int .i64 1] 26)))
  have HB2 := Lib.hid (HB.out.alloc HB.out.size (.cells #[.int .i64 120, .int .i64 1] 26))
  go_upto_region 4 with fail
  generalize hF1 : w3.heap.size = F3 at *
  generalize (w3.alloc (.cells #[.int .i64 120, .int .i64 1] 26)) = wc at *
  clear HB HI hF1
  have f10 := HF1.out.cell 0
  have f20 := HF2.out.cell 0
  have f21 := HF2.out.cell 1
  have f30 := HF3.out.cell 0
  have f31 := HF3.out.cell 1
  obtain ⟨g2, o2, e2, _, _, _, _, _, k5, _, _⟩ := HI2.out.at_ (k := 1) (i := awI) rfl
  injection e2 with e2
  injection e2 with e2 e3
  subst e2 e3
  simp only [List.getElem?_cons_zero, List.getElem?_cons_succ, awI, Nat.zero_add, Nat.one_mul] at f10 f20 f21 f30 f31 k5
  have hn1 := neq_ft 121 1 121 1
  have hn2 := neq_ft 120 1 120 1
  have hln : awL.length = 5 := rfl
  rw [hln]
  have hcp : 5 ≤ cp := HI2.out.1
  have q1 : ¬ (cp : Int) < 2 := by omega
  have q2 : (2 : Int) ≤ (cp : Int) := by omega
  have hSh := show_all (some ⟨g, 0 + 1 * 8, none⟩) (cp - 1) [awI] wc (HI2.out.one (k := 1) rfl) (hv.below HB2.out hB) (Nat.le_trans hB HB2.out.size)
  rw [aw4_is] at hSh
  unfold aw4 at hSh
  simp only [List.length_cons, List.length_nil, Nat.zero_add, Nat.one_mul] at hSh
  go_wp2_with fail
  (with_reducible refine hSh.mono ?_)
  rintro _ wd ⟨rfl, bd⟩
  have HB3 := Lib.hid (HB2.out.trans (bd.mono HB2.out.size))
  go_wp2_with fail
  go_ret
  exact ⟨rfl, HB3.out⟩
end Go.Proofs.YtjebjninlejoeaaGreatDoor
