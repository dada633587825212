/- A right code without its first instruction; copies, comparisons, picks. -/
import Derived.Test.YtdhfdlelnkoomaaDoorTInj3
import Derived.Test.YtdhfdlelnkoomaaDoorTNums
namespace Go.Proofs.YtdhfdlelnkoomaaDoor
open Go.RowKit
set_option linter.unusedVariables false
set_option maxRecDepth 100000

def dec1 (x : Ins) : Ins := if x.op = 7 ∨ x.op = 8 then { x with «to» := x.to - 1 } else x
theorem dec1_op (x : Ins) : (dec1 x).op = x.op := by unfold dec1; split <;> rfl
theorem one_dec {f : Ins} {i n : Int} (h : oneP f (i + 1) (n + 1) = true) : oneP (dec1 f) i n = true := by
  obtain ⟨o, wh, nar, d, a, b, u, sz, t⟩ := f
  by_cases h7 : o = 7
  · subst h7
    simp [oneP, dec1] at h ⊢
    refine ⟨h.1, ?_, ?_⟩ <;> omega
  by_cases h8 : o = 8
  · subst h8
    simp [oneP, dec1] at h ⊢
    obtain ⟨h1, h2, h3, h4, h5⟩ := h
    refine ⟨h1, h2, h3, ?_, ?_⟩ <;> omega
  have e : dec1 ⟨o, wh, nar, d, a, b, u, sz, t⟩ = ⟨o, wh, nar, d, a, b, u, sz, t⟩ := by unfold dec1; rw [if_neg (by simp; exact ⟨h7, h8⟩)]
  rw [e]
  unfold oneP at h ⊢
  simp only [h7, h8, if_false] at h ⊢
  exact h
def shortP (xs : List Ins) : List Ins := xs.tail.map dec1
theorem short_right {xs : List Ins} (h : rightP xs = true) (h2 : 2 ≤ xs.length) : rightP (shortP xs) = true := by
  have hl : (shortP xs).length = xs.length - 1 := by simp [shortP]
  have hm := (right_len h).2
  refine right_t _ (by omega) (by omega) ?_ ?_
  · have h3 : (xs.getLast?.map Ins.op == some 9) = true := by
      unfold rightP at h
      simp only [Bool.and_eq_true] at h
      exact h.2.1
    have e : (shortP xs).getLast?.map Ins.op = xs.getLast?.map Ins.op := by
      rw [List.getLast?_eq_getElem?, List.getLast?_eq_getElem?, hl]
      simp only [shortP, List.getElem?_map, List.getElem?_tail]
      rw [show xs.length - 1 - 1 + 1 = xs.length - 1 by omega]
      cases xs[xs.length - 1]? with
      | none => rfl
      | some x => simp [dec1_op]
    rw [e]; exact h3
  · intro j hj
    have h4 := right_one h (k := j + 1) (by omega)
    have e : (shortP xs).getD j default = dec1 (xs.getD (j + 1) default) := by
      simp only [List.getD_eq_getElem?_getD, shortP, List.getElem?_map, List.getElem?_tail, List.getElem?_eq_getElem (show j + 1 < xs.length by omega)]
      rfl
    rw [e, hl]
    refine one_dec ?_
    have e2 : ((xs.length - 1 : Nat) : Int) + 1 = (xs.length : Int) := by omega
    rw [e2]
    exact h4

/-- Pick. -/
def pickP (x n : Int) : Int := if x.tmod n < 0 then x.tmod n + n else x.tmod n
theorem pickP_in (x n : Int) (h : 1 ≤ n) : 0 ≤ pickP x n ∧ pickP x n < n := by
  unfold pickP
  have h1 : x.tmod n < n := Int.tmod_lt_of_pos x (by omega)
  have h2 : -n < x.tmod n := by
    have := Int.lt_tmod_of_pos x (show 0 < n by omega)
    omega
  split <;> omega
theorem pick_any (x n : Int) (w : World) (h : 1 ≤ n) (hn : n ≤ 17000) (hx0 : -9223372036854775808 ≤ x) (hx1 : x ≤ 9223372036854775807) :
    Calls Tryd.prog 18 #[.int .i64 x, .int .i64 n] w fun e w' => e = .returned (.int .i64 (pickP x n)) ∧ w = w' := by
  have h1 : x.tmod n < n := Int.tmod_lt_of_pos x (by omega)
  have h2 : -n < x.tmod n := by
    have := Int.lt_tmod_of_pos x (show 0 < n by omega)
    omega
  have HP := Lib.hid (show pickP x n = if x.tmod n < 0 then x.tmod n + n else x.tmod n from rfl)
  by_cases h0 : x.tmod n < 0
  · have HN := Lib.hid h0
    have d0 : decide (x.tmod n < 0) = true := decide_eq_true h0
    go_enter Tryd.func18, Tryd.ntmps18
    go_wp2_with fail
    go_ret
    exact ⟨by rw [HP.out, if_pos HN.out]; rfl, rfl⟩
  · have HN := Lib.hid h0
    have d0 : decide (x.tmod n < 0) = false := decide_eq_false h0
    go_enter Tryd.func18, Tryd.ntmps18
    go_wp2_with fail
    go_ret
    exact ⟨by rw [HP.out, if_neg (by have := HN.out; omega)]; rfl, rfl⟩
/-- CopyFlats, of one or more. -/
theorem copyF_any (A : Option Addr) (c : Nat) (xs : List Ins) (w : World) (hI : Inss w (fun b => b < w.heap.size) A c xs) (h1 : 1 ≤ xs.length) (h2 : xs.length ≤ 17000) :
    Calls Tryd.prog 17 #[.slice A xs.length c] w fun e w' => ∃ g cap, e = .returned (.slice (some ⟨g, 0, none⟩) xs.length cap) ∧ w.heap.size ≤ g ∧ Cd w' g cap xs ∧ Below w.heap.size w w' := by
  obtain ⟨i0, hi, hz0, hz1, hz2⟩ := info_parts flat_info
  have hi := Lib.hid hi
  have hz0 := Lib.hid hz0
  have hz1 := Lib.hid hz1
  have hz2 := Lib.hid hz2
  obtain ⟨a, x, rfl, ha, hx, hc⟩ := hI.at_ (k := 0) (by omega)
  have HC := Lib.hid hI.cells
  clear hI hc
  go_enter Tryd.func17, Tryd.ntmps17
  go_wp2_with (at_builtin; refine wpList_append_own _ rfl (.tmp 4) (.tmp 5) 22 rfl w.heap.size 35 i0 _ 9 56 Tryd.underlying22 hi.out hz0.out hz1.out hz2.out rfl (by decide) _ 0 [] rfl ⟨rfl, .inl ⟨rfl, rfl⟩⟩ a xs.length c (flatV xs) rfl (flatV_len _) (HC.out a rfl) (flatV_one _) (by unfold maxLen; omega) (by omega) (Nat.le_refl _) ?_)
  intro v' w1 hown' hgrow _
  have hb1 := (Below.refl w.heap.size w).grown hgrow (Nat.le_refl _) (fun g hg => by cases hg)
  obtain ⟨g, cap, rfl, hg, hC⟩ := cd_own (n := 0 + xs.length) (by simpa using hown') (by simp) (by omega)
  have HC1 := Lib.hid hC
  have HB1 := Lib.hid hb1
  clear hown' hgrow hb1 hC
  go_wp2_with fail
  go_ret
  exact ⟨g, cap, by simp, hg, HC1.out, HB1.out⟩
theorem neq_ins (a1 a2 : Int) (a3 : Bool) (a4 a5 a6 a7 a8 a9 b1 b2 : Int) (b3 : Bool) (b4 b5 b6 b7 b8 b9 : Int) (w : World) :
    (binOp .neq 35 (.agg #[.int .u8 a1, .int .u8 a2, .bool a3, .int .i64 a4, .int .i64 a5, .int .i64 a6, .int .u64 a7, .int .i64 a8, .int .i64 a9]) (.agg #[.int .u8 b1, .int .u8 b2, .bool b3, .int .i64 b4, .int .i64 b5, .int .i64 b6, .int .u64 b7, .int .i64 b8, .int .i64 b9])).run Tryd.prog w = .ok (.bool (!insE ⟨a1, a2, a3, a4, a5, a6, a7, a8, a9⟩ ⟨b1, b2, b3, b4, b5, b6, b7, b8, b9⟩)) w := by
  have h := eql_ins a1 a2 a3 a4 a5 a6 a7 a8 a9 b1 b2 b3 b4 b5 b6 b7 b8 b9 w
  rw [run_eql_struct] at h
  rw [run_neq_struct]
  generalize (Op.equalIn _ _ _ _).run _ _ = E at h ⊢
  cases E with
  | ok b w' =>
    simp only [Result.andThen, Result.ok.injEq, Value.bool.injEq] at h ⊢
    obtain ⟨h1, h2⟩ := h
    exact ⟨by rw [h1], h2⟩
  | _ => simp [Result.andThen] at h
section
attribute [local go_sem high] neq_ins
/-- SameFlats. -/
theorem sameF_any (A B : Option Addr) (c d : Nat) (xs ys : List Ins) (w : World) (hx : Inss w (fun b => b < w.heap.size) A c xs) (hy : Inss w (fun b => b < w.heap.size) B d ys) (hxl : xs.length ≤ 17000) (hyl : ys.length ≤ 17000) :
    Calls Tryd.prog 16 #[.slice A xs.length c, .slice B ys.length d] w fun e w' => e = .returned (.bool (decide (xs = ys))) ∧ Below w.heap.size w w' := by
  have HX := Lib.hid hx
  have HY := Lib.hid hy
  clear hx hy
  by_cases hl : xs.length = ys.length
  · have HL := Lib.hid hl
    have q0 : ((xs.length : Int) != (ys.length : Int)) = false := by rw [hl]; simp
    clear hl
    go_enter Tryd.func16, Tryd.ntmps16
    go_wp2_with fail
    go_loopw [5] (fun i wr => ∃ k : Nat, k ≤ xs.length ∧ i = .int .i64 k ∧ Hid (Below w.heap.size w wr) ∧ Hid (∀ j, j < k → xs[j]? = ys[j]?)) (fun i _ => xs.length - (intOf i).toNat)
    case atStart => exact ⟨0, Nat.zero_le _, rfl, Lib.hid (Below.refl _ _), Lib.hid (fun j hj => absurd hj (by omega))⟩
    case round =>
      obtain ⟨k, hk, rfl, hb, hall⟩ := hrel
      by_cases hlt : k < xs.length
      · have hlt2 : k < ys.length := by have := HL.out; omega
        have d1 : decide ((k : Int) < (xs.length : Int)) = true := decide_eq_true (by omega)
        have d2 : decide (k < xs.length) = true := decide_eq_true hlt
        have d3 : decide (k < ys.length) = true := decide_eq_true hlt2
        have d4 : decide (xs.length ≤ k) = false := decide_eq_false (by omega)
        have d5 : decide (ys.length ≤ k) = false := decide_eq_false (by omega)
        have i0 : (0 : Int) ≤ (k : Int) := by omega
        have i1 : (k : Int) < (xs.length : Int) := by omega
        have i2 : (k : Int) < (ys.length : Int) := by omega
        obtain ⟨a, x, rfl, hal, hx, hcx⟩ := (HX.out.below hb.out).at_ hlt
        obtain ⟨b, y, rfl, hbl, hy, hcy⟩ := (HY.out.below hb.out).at_ hlt2
        obtain ⟨e0, e1, e2, e3, e4, e5, e6, e7, e8⟩ := flat9 hcx
        obtain ⟨f0, f1, f2, f3, f4, f5, f6, f7, f8⟩ := flat9 hcy
        clear hcx hcy
        by_cases hxy : x = y
        · have q := insE_t (show (⟨x.op, x.what, x.nar, x.d, x.a, x.b, x.n, x.size, x.to⟩ : Ins) = ⟨y.op, y.what, y.nar, y.d, y.a, y.b, y.n, y.size, y.to⟩ by rw [hxy])
          have HE := Lib.hid hxy
          clear hxy
          go_wp2_with fail
          go_quiet (fail)
          go_wp2_with fail
          go_roundw
          case rel => exact ⟨k + 1, by omega, by go_num, Lib.hid (hb.out.trans ⟨rfl, rfl, rfl, Nat.le_refl _, fun _ _ => rfl⟩), Lib.hid (fun j hj => by
            rcases Nat.lt_or_ge j k with h | h
            · exact hall.out j h
            · obtain rfl : j = k := by omega
              rw [hx.out, hy.out, HE.out])⟩
          case measure => simp [intOf]; omega
        · have q := insE_f (show (⟨x.op, x.what, x.nar, x.d, x.a, x.b, x.n, x.size, x.to⟩ : Ins) ≠ ⟨y.op, y.what, y.nar, y.d, y.a, y.b, y.n, y.size, y.to⟩ from hxy)
          have HE : Hid (xs ≠ ys) := Lib.hid (fun e => hxy (by have h1 := hx.out; rw [e, hy.out] at h1; injection h1 with h1; exact h1.symm))
          clear hxy
          go_wp2_with fail
          go_quiet (fail)
          go_wp2_with fail
          go_ret
          exact ⟨by rw [decide_eq_false HE.out]; rfl, hb.out.trans ⟨rfl, rfl, rfl, Nat.le_refl _, fun _ _ => rfl⟩⟩
      · have d1 : decide ((k : Int) < (xs.length : Int)) = false := decide_eq_false (by omega)
        have HE : Hid (xs = ys) := Lib.hid (List.ext_getElem? fun j => by
          rcases Nat.lt_or_ge j xs.length with h | h
          · exact hall.out j (by omega)
          · rw [List.getElem?_eq_none h, List.getElem?_eq_none (by have := HL.out; omega)])
        go_wp2_with fail
        go_ret
        exact ⟨by rw [decide_eq_true HE.out]; rfl, hb.out⟩
  · have q0 : ((xs.length : Int) != (ys.length : Int)) = true := by simp; omega
    have HE : Hid (xs ≠ ys) := Lib.hid (fun e => hl (by rw [e]))
    clear hl
    go_enter Tryd.func16, Tryd.ntmps16
    go_wp2_with fail
    go_ret
    exact ⟨by rw [decide_eq_false HE.out]; rfl, Below.refl _ _⟩
end
end Go.Proofs.YtdhfdlelnkoomaaDoor
