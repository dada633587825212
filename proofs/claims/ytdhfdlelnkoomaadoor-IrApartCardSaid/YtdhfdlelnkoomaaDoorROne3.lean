/- The document's One and Right: over this seat's program. -/
import Derived.Test.YtdhfdlelnkoomaaDoorROne2
namespace Go.Proofs.YtdhfdlelnkoomaaDoor
open Go.RowKit Go.Shelf
set_option linter.unusedVariables false
set_option maxRecDepth 100000

set_option maxHeartbeats 4000000 in
theorem rone_none (f : Ins) (i n : Int) (w : World) (h1 : f.op ≠ 1) (h2 : f.op ≠ 2) (h3 : f.op ≠ 3) (h4 : f.op ≠ 4) (h5 : f.op ≠ 5) (h6 : f.op ≠ 6) (h7 : f.op ≠ 7) (h8 : f.op ≠ 8) (h9 : f.op ≠ 9) :
    Calls Tryd.prog 21 #[insA f, .int .i64 i, .int .i64 n] w fun e w' => e = .returned (.bool (oneP f i n)) ∧ Below w.heap.size w w' := by
  rw [one_none f i n h1 h2 h3 h4 h5 h6 h7 h8 h9]
  have e1 : (f.op == 1) = false := by simpa using h1
  have e2 : (f.op == 2) = false := by simpa using h2
  have e3 : (f.op == 3) = false := by simpa using h3
  have e4 : (f.op == 4) = false := by simpa using h4
  have e5 : (f.op == 5) = false := by simpa using h5
  have e6 : (f.op == 6) = false := by simpa using h6
  have e7 : (f.op == 7) = false := by simpa using h7
  have e8 : (f.op == 8) = false := by simpa using h8
  have e9 : (f.op == 9) = false := by simpa using h9
  clear h1 h2 h3 h4 h5 h6 h7 h8 h9
  unfold insA insV
  go_enter Tryd.func21, Tryd.ntmps21
  go_upto_region 1 with fail
  go_cut [7] (fun v wx => wx = w.alloc (.cells #[.int .u8 f.op, .int .u8 f.what, .bool f.nar, .int .i64 f.d, .int .i64 f.a, .int .i64 f.b, .int .u64 f.n, .int .i64 f.size, .int .i64 f.to] 35))
  case first =>
    by_cases h1 : i < f.to
    · have d1 : decide (i < f.to) = true := decide_eq_true h1
      go_wp2_with fail
      all_goals
        go_meet
        exact rfl
    · have d1 : decide (i < f.to) = false := decide_eq_false h1
      go_wp2_with fail
      go_meet
      exact rfl
  case rest =>
    obtain rfl := hcut
    go_wp2_with fail
    go_ret
    exact ⟨rfl, (Below.refl _ _).alloc (Nat.le_refl _) _⟩
theorem rone_any (f : Ins) (i n : Int) (w : World) : Calls Tryd.prog 21 #[insA f, .int .i64 i, .int .i64 n] w fun e w' => e = .returned (.bool (oneP f i n)) ∧ Below w.heap.size w w' := by
  by_cases h1 : f.op = 1
  · exact rone_set f i n w h1
  by_cases h2 : f.op = 2
  · exact rone_move f i n w h2
  by_cases h3 : f.op = 3
  · exact rone_alu f i n w h3
  by_cases h4 : f.op = 4
  · exact rone_load f i n w h4
  by_cases h5 : f.op = 5
  · exact rone_read f i n w h5
  by_cases h6 : f.op = 6
  · exact rone_write f i n w h6
  by_cases h7 : f.op = 7
  · exact rone_jump f i n w h7
  by_cases h8 : f.op = 8
  · exact rone_ask f i n w h8
  by_cases h9 : f.op = 9
  · exact rone_end f i n w h9
  exact rone_none f i n w h1 h2 h3 h4 h5 h6 h7 h8 h9
theorem rright_any (A : Option Addr) (c : Nat) (xs : List Ins) (w : World) (hI : Inss w (fun b => b < w.heap.size) A c xs) :
    Calls Tryd.prog 9 #[.slice A xs.length c] w fun e w' => e = .returned (.bool (rightP xs)) ∧ Below w.heap.size w w' := by
  obtain ⟨m1, m2, m3, m4⟩ := hI
  have hcap : xs.length ≤ 9223372036854775807 := by unfold maxLen at m3; omega
  have HI : Hid (Inss w (fun b => b < w.heap.size) A c xs) := Lib.hid ⟨m1, m2, m3, m4⟩
  clear m1 m2 m3 m4
  by_cases h0 : xs.length < 1
  · have d0 : decide (xs.length < 1) = true := decide_eq_true h0
    have HF : Hid (rightP xs = false) := Lib.hid (by unfold rightP; rw [decide_eq_false (by omega)]; rfl)
    go_enter Tryd.func9, Tryd.ntmps9
    go_wp2_with fail
    go_ret
    exact ⟨by rw [HF.out]; rfl, Below.refl _ _⟩
  by_cases h1 : 16384 < xs.length
  · have d1 : decide ((16384 : Int) < (xs.length : Int)) = true := decide_eq_true (by omega)
    have d0 : decide ((xs.length : Int) < 1) = false := decide_eq_false (by omega)
    have HF : Hid (rightP xs = false) := Lib.hid (by unfold rightP; rw [decide_eq_false (by omega)]; rfl)
    go_enter Tryd.func9, Tryd.ntmps9
    go_wp2_with fail
    go_ret
    exact ⟨by rw [HF.out]; rfl, Below.refl _ _⟩
  have d1 : decide ((16384 : Int) < (xs.length : Int)) = false := decide_eq_false (by omega)
  have d0 : decide ((xs.length : Int) < 1) = false := decide_eq_false (by omega)
  obtain ⟨a, x, rfl, ha, hx, hc⟩ := HI.out.at_ (k := xs.length - 1) (by omega)
  have c0 := hc 0 (by omega)
  simp only [insV, List.getElem?_cons_zero, add_zero'] at c0
  clear hc
  by_cases h9 : x.op = 9
  · have d9 : (x.op != 9) = false := by rw [h9]; rfl
    have HL : Hid ((xs.getLast?.map Ins.op == some 9) = true) := Lib.hid (by rw [List.getLast?_eq_getElem?, hx.out]; simp [h9])
    clear h9
    go_enter Tryd.func9, Tryd.ntmps9
    go_wp2_with fail
    clear c0 d0 d1
    go_loopw [3] (fun i wr => ∃ k : Nat, k ≤ xs.length ∧ i = .int .i64 k ∧ Hid (∀ j, j < k → oneP (xs.getD j default) j xs.length = true) ∧ Below w.heap.size w wr) (fun i _ => xs.length - (intOf i).toNat)
    case atStart => exact ⟨0, Nat.zero_le _, rfl, Lib.hid (fun j hj => absurd hj (by omega)), Below.refl _ _⟩
    case round =>
      obtain ⟨k, hk, rfl, hA, hbr⟩ := hrel
      have hzr := hbr.size
      by_cases hlt : k < xs.length
      · have d1 : decide ((k : Int) < (xs.length : Int)) = true := decide_eq_true (by omega)
        obtain ⟨a', f, e', _, hf, hc⟩ := HI.out.at_ hlt
        injection e' with e'
        subst e'
        have hcw : ∀ j, j < 9 → wr.cell? ((a.add (k * 9)).add j) = (insV f)[j]? := fun j hj => ((hbr.cell (p := (a.add (k * 9)).add j) (by rw [add_blk, add_blk]; omega))).trans (hc j hj)
        obtain ⟨e0, e1, e2, e3, e4, e5, e6, e7, e8⟩ := flat9 hcw
        clear hc hcw
        have hone := fun W => rone_any f k xs.length W
        simp only [insA, insV] at hone
        have HQ := Lib.hid hone
        have HBR := Lib.hid hbr
        clear hone hbr
        have HF' : ∀ y, xs.getD k default = y → y = f := fun y hy => by rw [← hy, List.getD_eq_getElem?_getD, hf.out]; rfl
        have HG := Lib.hid HF'
        clear HF'
        go_wp2_with fail
        refine (HQ.out _).mono ?_
        rintro _ w2 ⟨rfl, hb2⟩
        obtain ⟨q, hq⟩ : ∃ q, q = oneP f k xs.length := ⟨_, rfl⟩
        have HV := Lib.hid hq
        rw [← hq]
        clear hq
        have HB2 := Lib.hid hb2
        clear hb2
        cases q
        · go_wp2_with fail
          go_ret
          exact ⟨by rw [right_f xs k f hf.out HV.out.symm]; rfl, HBR.out.trans (HB2.out.mono (by omega))⟩
        · go_wp2_with fail
          go_roundw
          case rel => exact ⟨k + 1, by omega, by go_num, Lib.hid (fun j hj => by rcases Nat.lt_or_ge j k with h | h; (exact hA.out j h); (obtain rfl : j = k := by omega); rw [HG.out _ rfl]; exact HV.out.symm), HBR.out.trans (HB2.out.mono (by omega))⟩
          case measure => simp [intOf]; omega
      · have d1 : decide ((k : Int) < (xs.length : Int)) = false := decide_eq_false (by omega)
        go_wp2_with fail
        go_ret
        exact ⟨by rw [right_t xs (by omega) (by omega) HL.out (fun j hj => hA.out j (by omega))]; rfl, hbr⟩
  · have d9 : (x.op != 9) = true := by simpa using h9
    have HF : Hid (rightP xs = false) := Lib.hid (by
      unfold rightP
      rw [List.getLast?_eq_getElem?, hx.out]
      simp [h9])
    clear h9
    go_enter Tryd.func9, Tryd.ntmps9
    go_wp2_with fail
    go_ret
    exact ⟨by rw [HF.out]; rfl, Below.refl _ _⟩
end Go.Proofs.YtdhfdlelnkoomaaDoor
