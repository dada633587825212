/- IrApart: its walk. -/
import Derived.Test.YtdhfdlelnkoomaaDoorTShort
import Derived.Deep.Cut
import Derived.Deep.CutRange
namespace Go.Proofs.YtdhfdlelnkoomaaDoor
open Go.RowKit
set_option linter.unusedVariables false
set_option maxRecDepth 100000

theorem Kp.set {B N : Nat} {f : Ins} {W0 w : World} (h : Kp B N f W0 w) {g : Nat} (hg : N < g) (o : Nat) (u : Value) : Kp B N f W0 (w.setCell ⟨g, o, none⟩ u) :=
  ⟨h.bk.far (by simp; omega) u, h.tb.keep ((Below.refl B w).setCell (p := ⟨g, o, none⟩) (by have := h.lo; simp; omega) u), h.lo, h.below.setCell (p := ⟨g, o, none⟩) (by simp; omega) u⟩
theorem Cd.nine {w : World} {g cap p : Nat} {ys : List Ins} {y : Ins} (h : Cd w g cap ys) (hy : ys[p]? = some y) (x : Ins) :
    Cd (((((((((w.setCell ⟨g, p * 9, none⟩ (.int .u8 x.op)).setCell ⟨g, p * 9 + 1, none⟩ (.int .u8 x.what)).setCell ⟨g, p * 9 + 2, none⟩ (.bool x.nar)).setCell ⟨g, p * 9 + 3, none⟩ (.int .i64 x.d)).setCell ⟨g, p * 9 + 4, none⟩ (.int .i64 x.a)).setCell ⟨g, p * 9 + 5, none⟩ (.int .i64 x.b)).setCell ⟨g, p * 9 + 6, none⟩ (.int .u64 x.n)).setCell ⟨g, p * 9 + 7, none⟩ (.int .i64 x.size)).setCell ⟨g, p * 9 + 8, none⟩ (.int .i64 x.to)) g cap (ys.set p x) := by
  obtain ⟨⟨ext, h1⟩, h2, h3⟩ := h
  have hp := (List.getElem?_eq_some_iff.1 hy).1
  have e1 : ys = ys.take p ++ y :: ys.drop (p + 1) := by
    have := List.getElem?_eq_some_iff.1 hy
    obtain ⟨_, rfl⟩ := this
    rw [List.getElem_cons_drop, List.take_append_drop]
  have e2 : ys.set p x = ys.take p ++ x :: ys.drop (p + 1) := by rw [List.set_eq_take_append_cons_drop, if_pos hp]
  refine ⟨⟨ext, ?_⟩, by simpa using h2, h3⟩
  rw [e2, flatV_app, flatV_cons]
  have h4 : Bk w g 35 (flatV (ys.take p) ++ (.int .u8 y.op :: .int .u8 y.what :: .bool y.nar :: .int .i64 y.d :: .int .i64 y.a :: .int .i64 y.b :: .int .u64 y.n :: .int .i64 y.size :: .int .i64 y.to :: (flatV (ys.drop (p + 1)) ++ ext))) := by
    rw [e1, flatV_app, flatV_cons] at h1
    simpa [insV] using h1
  have h5 := h4.nine (n := p * 9) (by rw [flatV_len, List.length_take]; omega) (.int .u8 x.op) (.int .u8 x.what) (.bool x.nar) (.int .i64 x.d) (.int .i64 x.a) (.int .i64 x.b) (.int .u64 x.n) (.int .i64 x.size) (.int .i64 x.to)
  simpa [insV] using h5
theorem Cd.drew {w : World} {g cap : Nat} {ys : List Ins} (h : Cd w g cap ys) : Cd w.drew g cap ys := ⟨h.1.elim fun e k => ⟨e, k.drew⟩, h.2⟩
/-- The first i behind the head have their aims lowered. -/
def shZ (l : List Ins) (i : Nat) : List Ins := l.mapIdx fun j x => if 1 ≤ j ∧ j ≤ i then dec1 x else x
theorem shZ_zero (l : List Ins) : shZ l 0 = l := by
  refine List.ext_getElem? fun j => ?_
  rw [shZ, List.getElem?_mapIdx]
  cases l[j]? with
  | none => rfl
  | some x => simp; intro h1 h2; omega
theorem shZ_len (l : List Ins) (i : Nat) : (shZ l i).length = l.length := by simp [shZ]
theorem shZ_next (l : List Ins) (i : Nat) {y : Ins} (h : l[i + 1]? = some y) : (shZ l i)[i + 1]? = some y ∧ shZ l (i + 1) = (shZ l i).set (i + 1) (dec1 y) := by
  have hlt := (List.getElem?_eq_some_iff.1 h).1
  refine ⟨by rw [shZ, List.getElem?_mapIdx, h]; simp; intro h1; omega, List.ext_getElem? fun j => ?_⟩
  rw [List.getElem?_set]
  by_cases hj : i + 1 = j
  · subst hj
    rw [if_pos rfl, if_pos (by rw [shZ_len]; exact hlt), shZ, List.getElem?_mapIdx, h]
    simp
  · rw [if_neg hj, shZ, shZ, List.getElem?_mapIdx, List.getElem?_mapIdx]
    cases l[j]? with
    | none => rfl
    | some x =>
      simp only [Option.map_some]
      by_cases h1 : 1 ≤ j ∧ j ≤ i
      · rw [if_pos h1, if_pos (by omega)]
      · rw [if_neg h1, if_neg (by omega)]
theorem shZ_all (x0 : Ins) (l : List Ins) (i : Nat) (h : l.length ≤ i) : shZ (x0 :: l) i = x0 :: shortP (x0 :: l) := by
  refine List.ext_getElem? fun j => ?_
  rw [shZ, List.getElem?_mapIdx]
  cases j with
  | zero => simp
  | succ j =>
    simp only [List.getElem?_cons_succ, shortP, List.tail_cons, List.getElem?_map]
    cases hj : l[j]? with
    | none => rfl
    | some x =>
      have := (List.getElem?_eq_some_iff.1 hj).1
      simp only [Option.map_some]
      rw [if_pos (by omega)]
theorem far_of {y : Ins} {i n : Int} (h : oneP y i n = true) (hk : y.op = 7 ∨ y.op = 8) : i < y.to ∧ y.to < n := by
  obtain ⟨o, wh, nar, d, a, b, u, sz, t⟩ := y
  simp only at hk
  rcases hk with rfl | rfl
  · simp [oneP] at h; exact h.2
  · simp [oneP] at h; exact ⟨h.2.2.2.1, h.2.2.2.2⟩
theorem text_ne {xs : List Ins} (h : rightP xs = true) : ∃ c cs, textP xs = c :: cs := by
  have h1 := (right_len h).1
  obtain ⟨m, hm⟩ : ∃ m, xs.length = m + 1 := ⟨xs.length - 1, by omega⟩
  rw [textP, if_pos h, hm, textUp_succ]
  cases h2 : textUp xs m ++ (((Lib.itoa m ++ [58, 32]) ++ insT (xs.getD m default)) ++ [10]) with
  | nil => simp at h2
  | cons c cs => exact ⟨c, cs, rfl⟩
theorem count_any (l : List UInt8) (w : World) : Calls Tryd.prog 15 #[.string ⟨l.toArray⟩, .string ⟨#[10]⟩] w fun e w' => e = .returned (.int .i64 (l.count 10 : Nat)) ∧ w = w' :=
  (Tryd.strings_Count_one ⟨l.toArray⟩ 10 w).mono fun e w' ⟨h1, h2⟩ => ⟨by rw [h1]; rfl, h2.symm⟩
theorem sameF_n (A : Option Addr) (c : Nat) (xs : List Ins) {g cap n : Nat} {ys : List Ins} (w : World) (hx : Inss w (fun b => b < w.heap.size) A c xs) (hxl : xs.length ≤ 17000) (hy : Cd w g cap ys) (hn : ys.length = n) (hnl : n ≤ 17000) :
    Calls Tryd.prog 16 #[.slice A xs.length c, .slice (some ⟨g, 0, none⟩) n cap] w fun e w' => e = .returned (.bool (decide (xs = ys))) ∧ Below w.heap.size w w' := by
  subst hn
  exact sameF_any A _ c cap xs ys w hx hy.inss hxl hnl
/-- The two answers that must be alike. -/
theorem same_text {xs ys : List Ins} (hx : rightP xs = true) (hy : rightP ys = true) (okx : ∀ f ∈ xs, InsOk f) (oky : ∀ f ∈ ys, InsOk f) (h : xs ≠ ys) : textP ys ≠ textP xs := fun e => h (text_inj hx hy okx oky e.symm)
set_option linter.unusedSimpArgs false in
set_option maxHeartbeats 20000000 in
theorem IrApart_any (A : Option Addr) (c : Nat) (l : List Ins) (B : Option Addr) (d : Nat) (m : List Ins) (at_ : Int) (x : Ins) (w : World)
    (hl : Inss w (fun b => b < w.heap.size) A c l) (hm : Inss w (fun b => b < w.heap.size) B d m) (okl : ∀ f ∈ l, InsOk f) (okm : ∀ f ∈ m, InsOk f) (okx : InsOk x) (ha0 : -9223372036854775808 ≤ at_) (ha1 : at_ ≤ 9223372036854775807) (ht : Tb w.heap.size w) :
    Calls Tryd.prog 5 #[.slice A l.length c, .slice B m.length d, .int .i64 at_, insA x] w fun e w' => e = .returned (.bool true) ∧ Below w.heap.size w w' := by
  have hll : l.length ≤ 9223372036854775807 := by have h1 := hl.2.1; have h2 := hl.2.2.1; unfold maxLen at h2; omega
  have hml : m.length ≤ 9223372036854775807 := by have h1 := hm.2.1; have h2 := hm.2.2.1; unfold maxLen at h2; omega
  have HL := Lib.hid hl
  have HM := Lib.hid hm
  have OKL := Lib.hid okl
  have OKM := Lib.hid okm
  have OKX := Lib.hid okx
  obtain ⟨w0, e0, HK0, hz⟩ := Kp.box x ht (Nat.le_refl _)
  simp only [insV] at e0
  clear hl hm okl okm okx ht
  go_enter Tryd.func5, Tryd.ntmps5
  unfold insA insV
  go_wp2_with fail
  clear e0
  refine (awake_any w0 (HK0.out.tb.mono HK0.out.hB)).mono ?_
  rintro _ w1 ⟨rfl, hb'⟩
  have HK1 := Lib.hid (Kp.step HK0.out hb')
  clear hb'
  by_cases h1 : 17000 < l.length
  · have d1 : decide ((17000 : Int) < (l.length : Int)) = true := decide_eq_true (by omega)
    go_wp2_with fail
    go_ret
    exact ⟨rfl, HK1.out.below⟩
  have d1 : decide ((17000 : Int) < (l.length : Int)) = false := decide_eq_false (by omega)
  by_cases h2 : 17000 < m.length
  · have d2 : decide ((17000 : Int) < (m.length : Int)) = true := decide_eq_true (by omega)
    go_wp2_with fail
    go_ret
    exact ⟨rfl, HK1.out.below⟩
  have d2 : decide ((17000 : Int) < (m.length : Int)) = false := decide_eq_false (by omega)
  have HL17 := Lib.hid (show l.length ≤ 17000 by omega)
  have HM17 := Lib.hid (show m.length ≤ 17000 by omega)
  clear h1 h2
  go_wp2_with fail
  ((with_reducible refine (text_any A c l w1 (HL.out.below HK1.out.below) OKL.out (HK1.out.tb.mono HK1.out.hB)).mono ?_))
  rintro _ w2 ⟨rfl, hb'⟩
  have HK2 := Lib.hid (Kp.step HK1.out hb')
  clear hb'
  by_cases hr : rightP l = true
  · have HR := Lib.hid hr
    obtain ⟨s0, s1, hs⟩ := text_ne hr
    have HS := Lib.hid hs
    have HCN := Lib.hid (show (s0 :: s1).count 10 = l.length by rw [← hs, textP, if_pos hr]; exact text_count hr OKL.out _ (Nat.le_refl _))
    have HL1 := Lib.hid (right_len hr)
    rw [hs]
    clear hr hs
    go_wp2_with fail
    ((with_reducible refine (right_any A c l w2 (HL.out.below HK2.out.below)).mono ?_))
    rintro _ w3 ⟨rfl, hb'⟩
    have HK3 := Lib.hid (Kp.step HK2.out hb')
    clear hb'
    rw [HR.out]
    go_wp2_with fail
    ((with_reducible refine (right_any A c l w3 (HL.out.below HK3.out.below)).mono ?_))
    rintro _ w4 ⟨rfl, hb'⟩
    have HK4 := Lib.hid (Kp.step HK3.out hb')
    clear hb'
    rw [HR.out]
    go_wp2_with fail
    refine (count_any (s0 :: s1) w4).mono ?_
    rintro _ _ ⟨rfl, rfl⟩
    rw [HCN.out]
    have q0 : ((l.length : Int) != (l.length : Int)) = false := by simp
    go_wp2_with fail
    ((with_reducible refine (right_any A c l w4 (HL.out.below HK4.out.below)).mono ?_))
    rintro _ w5 ⟨rfl, hb'⟩
    have HK5 := Lib.hid (Kp.step HK4.out hb')
    clear hb'
    rw [HR.out]
    go_upto_region 10 with (fail)
    go_cut [55] from 44 to 55 (fun v wx => v = .bool false ∧ Hid (Kp w.heap.size w.heap.size x w wx))
    case first =>
      go_wp2_with fail
      ((with_reducible refine (right_any B d m w5 (HM.out.below HK5.out.below)).mono ?_))
      rintro _ w6 ⟨rfl, hb'⟩
      have HK6 := Lib.hid (Kp.step HK5.out hb')
      clear hb'
      by_cases hrm : rightP m = true
      · have HRM := Lib.hid hrm
        rw [hrm]
        clear hrm
        go_wp2_with fail
        ((with_reducible refine (text_any B d m w6 (HM.out.below HK6.out.below) OKM.out (HK6.out.tb.mono HK6.out.hB)).mono ?_))
        rintro _ w7 ⟨rfl, hb'⟩
        have HK7 := Lib.hid (Kp.step HK6.out hb')
        clear hb'
        go_wp2_with fail
        ((with_reducible refine (sameF_any A B c d l m w7 (HL.out.below HK7.out.below) (HM.out.below HK7.out.below) HL17.out HM17.out).mono ?_))
        rintro _ w8 ⟨rfl, hb'⟩
        have HK8 := Lib.hid (Kp.step HK7.out hb')
        clear hb'
        by_cases he : l = m
        · have HE := Lib.hid (show textP m = s0 :: s1 by rw [← he]; exact HS.out)
          rw [decide_eq_true he, HE.out]
          clear he
          go_wp2_with fail
          go_meet
          exact ⟨rfl, HK8⟩
        · have HE := Lib.hid (show textP m ≠ s0 :: s1 by rw [← HS.out]; exact same_text HR.out HRM.out OKL.out OKM.out he)
          have z1 : (textP m == s0 :: s1) = false := by rw [beq_eq_false_iff_ne]; exact HE.out
          rw [decide_eq_false he]
          clear he
          go_wp2_with fail
          go_meet
          exact ⟨rfl, HK8⟩
      · have hrm' : rightP m = false := by simpa using hrm
        rw [hrm']
        clear hrm hrm'
        go_wp2_with fail
        go_meet
        exact ⟨rfl, HK6⟩
    case rest =>
      obtain ⟨rfl, HK9⟩ := hcut
      clear HK0 HK1 HK2 HK3 HK4 HK5
      go_wp2_with fail
      refine (copyF_any A c l wc (HL.out.below HK9.out.below) HL1.out.1 HL17.out).mono ?_
      rintro _ wd ⟨g, cap, rfl, hg, hC, hb'⟩
      have HK10 := Lib.hid (Kp.step HK9.out hb')
      have HC := Lib.hid hC
      have HG := Lib.hid (show w.heap.size < g by have := HK9.out.bk.lt; omega)
      clear hb' hC hg
      obtain ⟨hp0, hp1⟩ := pickP_in at_ l.length (by have := HL1.out.1; omega)
      obtain ⟨p, hp⟩ : ∃ p : Nat, pickP at_ l.length = p := ⟨(pickP at_ l.length).toNat, by omega⟩
      rw [hp] at hp0 hp1
      have hpl : p < l.length := by omega
      have HPK : Hid (∀ W, Calls Tryd.prog 18 #[.int .i64 at_, .int .i64 (l.length : Int)] W fun e w' => e = .returned (.int .i64 (p : Int)) ∧ W = w') := Lib.hid fun W => by
        have h := pick_any at_ l.length W (by have := HL1.out.1; omega) (by have := HL17.out; omega) ha0 ha1
        rw [hp] at h; exact h
      obtain ⟨y, hy⟩ : ∃ y, Hid (l[p]? = some y) := ⟨_, Lib.hid (List.getElem?_eq_getElem hpl)⟩
      have hnine := HC.out
      obtain ⟨hc, hfz⟩ := hnine.cell hy.out
      have c0 := hc 0 (by decide)
      have c1 := hc 1 (by decide)
      have c2 := hc 2 (by decide)
      have c3 := hc 3 (by decide)
      have c4 := hc 4 (by decide)
      have c5 := hc 5 (by decide)
      have c6 := hc 6 (by decide)
      have c7 := hc 7 (by decide)
      have c8 := hc 8 (by decide)
      simp only [insV, List.getElem?_cons_zero, List.getElem?_cons_succ, Nat.add_zero] at c0 c1 c2 c3 c4 c5 c6 c7 c8
      have CS := HK10.out.cs
      clear hc hnine hp
      have HK10' := Lib.hid HK10.out.drew
      obtain ⟨we, ee, HK11, HC11⟩ : ∃ we, Hid ((((((((((wd.setCell ⟨g, p * 9, none⟩ (.int .u8 x.op)).setCell ⟨g, p * 9 + 1, none⟩ (.int .u8 x.what)).setCell ⟨g, p * 9 + 2, none⟩ (.bool x.nar)).setCell ⟨g, p * 9 + 3, none⟩ (.int .i64 x.d)).setCell ⟨g, p * 9 + 4, none⟩ (.int .i64 x.a)).setCell ⟨g, p * 9 + 5, none⟩ (.int .i64 x.b)).setCell ⟨g, p * 9 + 6, none⟩ (.int .u64 x.n)).setCell ⟨g, p * 9 + 7, none⟩ (.int .i64 x.size)).setCell ⟨g, p * 9 + 8, none⟩ (.int .i64 x.to)).drew = we) ∧ Hid (Kp w.heap.size w.heap.size x w we) ∧ Hid (Cd we g cap (l.set p x)) :=
        ⟨_, Lib.hid rfl, Lib.hid (((((((((HK10.out.set HG.out _ _).set HG.out _ _).set HG.out _ _).set HG.out _ _).set HG.out _ _).set HG.out _ _).set HG.out _ _).set HG.out _ _).set HG.out _ _).drew, Lib.hid (HC.out.nine hy.out x).drew⟩
      go_upto_region 13 with (fail)
      refine wp_region_held_drew (S := fun w' => w'.cell? ⟨w.heap.size, 0, none⟩ = some (.int .u8 x.op) ∧ w'.cell? ⟨w.heap.size, 1, none⟩ = some (.int .u8 x.what) ∧ w'.cell? ⟨w.heap.size, 2, none⟩ = some (.bool x.nar) ∧ w'.cell? ⟨w.heap.size, 3, none⟩ = some (.int .i64 x.d) ∧ w'.cell? ⟨w.heap.size, 4, none⟩ = some (.int .i64 x.a) ∧ w'.cell? ⟨w.heap.size, 5, none⟩ = some (.int .i64 x.b) ∧ w'.cell? ⟨w.heap.size, 6, none⟩ = some (.int .u64 x.n) ∧ w'.cell? ⟨w.heap.size, 7, none⟩ = some (.int .i64 x.size) ∧ w'.cell? ⟨w.heap.size, 8, none⟩ = some (.int .i64 x.to)) (by kernel_rfl) (Kp.cs HK10'.out) (fun hS => ?_)
      refine wpAnyH_take (i := 0) (v := ?_) rfl (by kernel_rfl) (by kernel_rfl) (by kernel_rfl) (fun _ _ _ h => h) (Or.inl ⟨by rfl, ?_⟩) hS ?_
      rotate_left 1
      · intro w' hSw
        go_simp <;> with_reducible rfl
      try simp only [List.getElem_toArray, List.getElem_cons_zero, List.getElem_cons_succ, Act.put, List.setIfInBounds_toArray, List.set_cons_zero, List.set_cons_succ]
      refine wpAnyH_take (i := 1) (v := ?_) rfl (by kernel_rfl) (by kernel_rfl) (by kernel_rfl) (fun _ _ _ h => h) (Or.inl ⟨by rfl, ?_⟩) hS ?_
      rotate_left 1
      · intro w' hSw
        go_simp <;> with_reducible rfl
      try simp only [List.getElem_toArray, List.getElem_cons_zero, List.getElem_cons_succ, Act.put, List.setIfInBounds_toArray, List.set_cons_zero, List.set_cons_succ]
      refine wpAnyH_take (i := 2) (v := ?_) rfl (by kernel_rfl) (by kernel_rfl) (by kernel_rfl) (fun _ _ _ h => h) (Or.inl ⟨by rfl, ?_⟩) hS ?_
      rotate_left 1
      · intro w' hSw
        go_simp <;> with_reducible rfl
      try simp only [List.getElem_toArray, List.getElem_cons_zero, List.getElem_cons_succ, Act.put, List.setIfInBounds_toArray, List.set_cons_zero, List.set_cons_succ]
      refine wpAnyH_take (i := 3) (v := ?_) rfl (by kernel_rfl) (by kernel_rfl) (by kernel_rfl) (fun _ _ _ h => h) (Or.inl ⟨by rfl, ?_⟩) hS ?_
      rotate_left 1
      · intro w' hSw
        go_simp <;> with_reducible rfl
      try simp only [List.getElem_toArray, List.getElem_cons_zero, List.getElem_cons_succ, Act.put, List.setIfInBounds_toArray, List.set_cons_zero, List.set_cons_succ]
      refine wpAnyH_take (i := 5) (v := ?_) rfl (by kernel_rfl) (by kernel_rfl) (by kernel_rfl) (fun _ _ _ h => h) (Or.inl ⟨by rfl, ?_⟩) hS ?_
      rotate_left 1
      · intro w' hSw
        go_simp <;> with_reducible rfl
      try simp only [List.getElem_toArray, List.getElem_cons_zero, List.getElem_cons_succ, Act.put, List.setIfInBounds_toArray, List.set_cons_zero, List.set_cons_succ]
      refine wpAnyH_ready (rs := [4]) (by kernel_rfl) (by simp) (AllReadyH.cons rfl (fun K hK => ?_) AllReadyH.nil)
      go_simp
      refine (HPK.out _).mono ?_
      rintro _ _ ⟨rfl, rfl⟩
      go_simp
      refine hK.out _ _ (Kp.cs HK10'.out) (fun hS => ?_)
      clear hK K
      try simp only [List.getElem_toArray, List.getElem_cons_zero, List.getElem_cons_succ, Act.put, List.setIfInBounds_toArray, List.set_cons_zero, List.set_cons_succ]
      refine wpAnyH_take (i := 6) (v := ?_) rfl (by kernel_rfl) (by kernel_rfl) (by kernel_rfl) (fun _ _ _ h => h) (Or.inl ⟨by rfl, ?_⟩) hS ?_
      rotate_left 1
      · intro w' hSw
        go_simp <;> with_reducible rfl
      try simp only [List.getElem_toArray, List.getElem_cons_zero, List.getElem_cons_succ, Act.put, List.setIfInBounds_toArray, List.set_cons_zero, List.set_cons_succ]
      refine wpAnyH_ready (rs := [7]) (by kernel_rfl) (by simp) (AllReadyH.cons rfl (fun K hK => ?_) AllReadyH.nil)
      go_simp
      rw [ee.out]
      refine hK.out _ _ (Kp.cs HK11.out) (fun hS => ?_)
      clear hK K
      try simp only [List.getElem_toArray, List.getElem_cons_zero, List.getElem_cons_succ, Act.put, List.setIfInBounds_toArray, List.set_cons_zero, List.set_cons_succ]
      refine wpAnyH_done (by kernel_rfl) ?_ _
      have OKC := Lib.hid (set_ok OKL.out p OKX.out)
      have HCL : Hid ((l.set p x).length = l.length) := Lib.hid (by simp)
      clear c0 c1 c2 c3 c4 c5 c6 c7 c8 CS hfz hS HK9 HK10 HK10' HC ee
      generalize l.set p x = l' at HC11 OKC HCL
      go_upto_region 14 with (fail)
      go_cut [76] from 65 to 76 (fun v wx => v = .bool false ∧ Hid (Kp w.heap.size w.heap.size x w wx))
      case first =>
        go_wp2_with fail
        ((with_reducible refine (right_n HC11.out HCL.out).mono ?_))
        rintro _ wf ⟨rfl, hb'⟩
        have HK12 := Lib.hid (Kp.step HK11.out hb')
        have HC12 := Lib.hid (HC11.out.below hb')
        clear hb'
        by_cases hrm : rightP l' = true
        · have HRM := Lib.hid hrm
          rw [hrm]
          clear hrm
          go_wp2_with fail
          ((with_reducible refine (text_n HC12.out HCL.out OKC.out (HK12.out.tb.mono HK12.out.hB)).mono ?_))
          rintro _ wg ⟨rfl, hb'⟩
          have HK13 := Lib.hid (Kp.step HK12.out hb')
          have HC13 := Lib.hid (HC12.out.below hb')
          clear hb'
          go_wp2_with fail
          ((with_reducible refine (sameF_n A c l wg (HL.out.below HK13.out.below) HL17.out HC13.out HCL.out HL17.out).mono ?_))
          rintro _ wh ⟨rfl, hb'⟩
          have HK14 := Lib.hid (Kp.step HK13.out hb')
          clear hb'
          by_cases he : l = l'
          · have HE := Lib.hid (show textP l' = s0 :: s1 by rw [← he]; exact HS.out)
            rw [decide_eq_true he, HE.out]
            clear he
            go_wp2_with fail
            go_meet
            exact ⟨rfl, HK14⟩
          · have HE := Lib.hid (show textP l' ≠ s0 :: s1 by rw [← HS.out]; exact same_text HR.out HRM.out OKL.out OKC.out he)
            have z1 : (textP l' == s0 :: s1) = false := by rw [beq_eq_false_iff_ne]; exact HE.out
            rw [decide_eq_false he]
            clear he
            go_wp2_with fail
            go_meet
            exact ⟨rfl, HK14⟩
        · have hrm' : rightP l' = false := by simpa using hrm
          rw [hrm']
          clear hrm hrm'
          go_wp2_with fail
          go_meet
          exact ⟨rfl, HK12⟩
      case rest =>
        obtain ⟨rfl, HK15⟩ := hcut
        clear HK11 HC11 OKC HCL
        by_cases h1 : l.length = 1
        · have q1 : ((l.length : Int) == 1) = true := by rw [beq_iff_eq]; omega
          clear h1
          go_wp2_with fail
          go_ret
          exact ⟨rfl, HK15.out.below⟩
        have q1 : ((l.length : Int) == 1) = false := by rw [beq_eq_false_iff_ne]; omega
        have H2 := Lib.hid (show 2 ≤ l.length by have := HL1.out.1; omega)
        clear h1
        go_wp2_with fail
        refine (copyF_any A c l _ (HL.out.below HK15.out.below) HL1.out.1 HL17.out).mono ?_
        rintro _ wi ⟨g2, cap2, rfl, hg, hC, hb'⟩
        have HK16 := Lib.hid (Kp.step HK15.out hb')
        have HC0 := Lib.hid (show Cd wi g2 cap2 (shZ l 0) by rw [shZ_zero]; exact hC)
        have HG2 := Lib.hid (show w.heap.size < g2 by have := HK15.out.bk.lt; omega)
        have hcp : 2 ≤ cap2 := by have := hC.2.1; have := H2.out; omega
        have hcp1 : ¬ cap2 = 1 := by omega
        have hcp2 : l.length ≤ cap2 := hC.2.1
        have hln : 1 ≤ l.length := HL1.out.1
        clear hb' hC hg
        go_wp2_with fail
        obtain ⟨n, hn⟩ : ∃ n, l.length - 1 = n := ⟨_, rfl⟩
        obtain ⟨k2, hk2⟩ : ∃ k2, cap2 - 1 = k2 := ⟨_, rfl⟩
        rw [hn, hk2]
        have HN := Lib.hid (show l.length = n + 1 by omega)
        have HK2 := Lib.hid (show cap2 = k2 + 1 by omega)
        have hnk : n ≤ k2 := by omega
        have hn17 : n ≤ 17000 := by have := HL17.out; omega
        clear hn hk2 hcp hcp1 hcp2 hln hll q0 q1 hp0 hp1 hpl
        go_loopw [12] (fun i' wr => ∃ i : Nat, i ≤ n ∧ i' = .int .i64 i ∧ Hid (Kp w.heap.size w.heap.size x w wr) ∧ Hid (Cd wr g2 cap2 (shZ l i))) (fun i _ => n - (intOf i).toNat)
        case atStart => exact ⟨0, Nat.zero_le _, rfl, HK16, HC0⟩
        case round =>
          clear HK16 HC0
          obtain ⟨i, hi, rfl, HKr, HCr⟩ := hrel
          by_cases hlt : i < n
          · have d3 : decide ((i : Int) < (n : Int)) = true := decide_eq_true (by omega)
            obtain ⟨y, hy⟩ : ∃ y, Hid (l[i + 1]? = some y) := ⟨_, Lib.hid (List.getElem?_eq_getElem (by have := HN.out; omega))⟩
            have HZ := Lib.hid (shZ_next l i hy.out)
            have HO1 := Lib.hid (show oneP y ((i + 1 : Nat) : Int) l.length = true by
              have h := right_one HR.out (k := i + 1) (by have := HN.out; omega)
              rw [List.getD_eq_getElem?_getD, hy.out] at h
              exact h)
            obtain ⟨hc, hfz⟩ := HCr.out.cell HZ.out.1
            have e9 : (i + 1) * 9 = 9 + i * 9 := by omega
            rw [e9] at hc
            have c0 := hc 0 (by decide)
            have c8 := hc 8 (by decide)
            simp only [insV, List.getElem?_cons_zero, List.getElem?_cons_succ, Nat.add_zero] at c0 c8
            have hi0 : (0 : Int) ≤ (i : Int) := by omega
            have hi1 : (i : Int) < (n : Int) := by omega
            clear hc e9
            by_cases hk7 : y.op = 7 ∨ y.op = 8
            · have HF := far_of HO1.out hk7
              have HDE := Lib.hid (show dec1 y = { y with «to» := y.to - 1 } by unfold dec1; rw [if_pos hk7])
              have hm1 : (1 : Int) ≤ y.to := by have := HF.1; omega
              have hm2 : y.to ≤ 17000 := by have := HF.2; have := HL17.out; omega
              have HC9 := Lib.hid (show Cd (wr.setCell ⟨g2, 9 + i * 9 + 8, none⟩ (.int .i64 (y.to - 1))) g2 cap2 (shZ l (i + 1)) by
                rw [HZ.out.2, HDE.out, show 9 + i * 9 + 8 = (i + 1) * 9 + 8 by omega]
                exact HCr.out.set { y with «to» := y.to - 1 } 8 _ HZ.out.1 (by decide) rfl)
              have HK9 := Lib.hid (HKr.out.set HG2.out (9 + i * 9 + 8) (.int .i64 (y.to - 1)))
              clear HF
              rcases hk7 with hk7 | hk7
              · have q7 : (y.op == 7) = true := by rw [beq_iff_eq]; exact hk7
                clear hk7
                go_wp2_with fail
                go_roundw
                case rel => exact ⟨i + 1, by omega, by go_num, HK9, HC9⟩
                case measure => simp [intOf]; omega
              · have q7 : (y.op == 7) = false := by rw [beq_eq_false_iff_ne]; omega
                have q8 : (y.op == 8) = true := by rw [beq_iff_eq]; exact hk7
                clear hk7
                go_wp2_with fail
                go_roundw
                case rel => exact ⟨i + 1, by omega, by go_num, HK9, HC9⟩
                case measure => simp [intOf]; omega
            · have HDE := Lib.hid (show dec1 y = y by unfold dec1; rw [if_neg hk7])
              have HC9 := Lib.hid (show Cd wr g2 cap2 (shZ l (i + 1)) by
                have h := HZ.out.1
                rw [HZ.out.2, HDE.out]
                have e : (shZ l i).set (i + 1) y = shZ l i := by
                  refine List.ext_getElem? fun j => ?_
                  rw [List.getElem?_set]
                  by_cases hj : i + 1 = j
                  · subst hj; rw [if_pos rfl, if_pos (List.getElem?_eq_some_iff.1 h).1, h]
                  · rw [if_neg hj]
                rw [e]; exact HCr.out)
              have q7 : (y.op == 7) = false := by rw [beq_eq_false_iff_ne]; exact fun e => hk7 (.inl e)
              have q8 : (y.op == 8) = false := by rw [beq_eq_false_iff_ne]; exact fun e => hk7 (.inr e)
              clear hk7
              go_wp2_with fail
              go_roundw
              case rel => exact ⟨i + 1, by omega, by go_num, HKr, HC9⟩
              case measure => simp [intOf]; omega
          · have d3 : decide ((i : Int) < (n : Int)) = false := decide_eq_false (by omega)
            obtain ⟨x0, tl, HX⟩ : ∃ x0 tl, Hid (l = x0 :: tl) := by
              cases l with
              | nil => have := H2.out; simp at this
              | cons a b => exact ⟨a, b, Lib.hid rfl⟩
            have HSH := Lib.hid (show shZ l i = x0 :: shortP l by rw [HX.out]; exact shZ_all x0 tl i (by have h := HN.out; rw [HX.out] at h; simp at h; omega))
            have HSL := Lib.hid (show (shortP l).length = n by have := HN.out; simp [shortP]; omega)
            have HSR := Lib.hid (short_right HR.out H2.out)
            have HRT : Hid (Calls Tryd.prog 8 #[.slice (some ⟨g2, 9, none⟩) n k2] wr fun e w' => e = .returned (.bool true) ∧ Below wr.heap.size wr w') := Lib.hid (by
              have h0 := HCr.out
              rw [HSH.out] at h0
              obtain ⟨⟨ext, hb⟩, hl1, hl2⟩ := h0
              have h := right_any (some ⟨g2, 9, none⟩) k2 (shortP l) wr (inss_off hb (by rw [HSL.out]; exact hnk) (by have := HK2.out; omega))
              rw [HSR.out, HSL.out] at h
              exact h)
            clear HX
            go_wp2_with fail
            refine HRT.out.mono ?_
            rintro _ wz ⟨rfl, hb'⟩
            have HKz := Lib.hid (Kp.step HKr.out hb')
            clear hb'
            go_wp2_with fail
            go_ret
            exact ⟨rfl, HKz.out.below⟩
  · have hr' : rightP l = false := by simpa using hr
    have HR := Lib.hid hr'
    have HS := Lib.hid (show textP l = [] by rw [textP, if_neg hr])
    rw [HS.out]
    clear hr hr'
    go_wp2_with fail
    ((with_reducible refine (right_any A c l w2 (HL.out.below HK2.out.below)).mono ?_))
    rintro _ w3 ⟨rfl, hb'⟩
    have HK3 := Lib.hid (Kp.step HK2.out hb')
    clear hb'
    rw [HR.out]
    go_wp2_with fail
    ((with_reducible refine (right_any A c l w3 (HL.out.below HK3.out.below)).mono ?_))
    rintro _ w4 ⟨rfl, hb'⟩
    have HK4 := Lib.hid (Kp.step HK3.out hb')
    clear hb'
    rw [HR.out]
    go_wp2_with fail
    ((with_reducible refine (right_any A c l w4 (HL.out.below HK4.out.below)).mono ?_))
    rintro _ w5 ⟨rfl, hb'⟩
    have HK5 := Lib.hid (Kp.step HK4.out hb')
    clear hb'
    rw [HR.out]
    go_wp2_with fail
    go_ret
    exact ⟨rfl, HK5.out.below⟩
end Go.Proofs.YtdhfdlelnkoomaaDoor
