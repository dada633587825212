/- The walk of the statement AluParts, over this seat's program. -/
import Derived.Test.YtlfgddljmcgggaaEdges
import Derived.StillTailTactics
namespace Go.Proofs.Ytlfgddljmcgggaa
open Go.RowKit
set_option linter.unusedVariables false

/-- How many numbers a width has. -/
def wide (nar : Bool) : Int := if nar then 4294967296 else 18446744073709551616
theorem do_add (nar : Bool) (a b : Int) : DoV nar 1 a b = (a + b) % wide nar := by
  cases nar <;> simp [DoV, dVal, dErr, opV, wide, w64, w32]
theorem do_sub (nar : Bool) (a b : Int) : DoV nar 2 a b = (a - b) % wide nar := by
  cases nar <;> simp [DoV, dVal, dErr, opV, wide, w64, w32]
theorem do_mul (nar : Bool) (a b : Int) : DoV nar 3 a b = (a * b) % wide nar := by
  cases nar <;> simp [DoV, dVal, dErr, opV, wide, w64, w32, Int.mul_emod]
theorem do_neg (nar : Bool) (a b : Int) : DoV nar 13 a b = (-a) % wide nar := by
  cases nar
  · simp [DoV, dVal, dErr, opV, wide, w64]
  · simp [DoV, dVal, dErr, opV, wide, w32]; omega
theorem do_div (nar : Bool) (a b : Int) (ha0 : 0 ≤ a) (ha1 : a ≤ 18446744073709551615) (hb0 : 0 ≤ b) (hb1 : b ≤ 18446744073709551615) (h : b % wide nar ≠ 0) : DoV nar 4 a b = (a % wide nar) / (b % wide nar) := by
  cases nar
  · simp only [wide] at *
    rw [Int.emod_eq_of_lt ha0 (by simp; omega), Int.emod_eq_of_lt hb0 (by simp; omega)] at *
    simp [DoV, dVal, dErr, opV, h]
  · simp [wide] at h
    simp [DoV, dVal, dErr, opV, wide, h]
theorem do_mod (nar : Bool) (a b : Int) (ha0 : 0 ≤ a) (ha1 : a ≤ 18446744073709551615) (hb0 : 0 ≤ b) (hb1 : b ≤ 18446744073709551615) (h : b % wide nar ≠ 0) : DoV nar 5 a b = (a % wide nar) % (b % wide nar) := by
  cases nar
  · simp only [wide] at *
    rw [Int.emod_eq_of_lt ha0 (by simp; omega), Int.emod_eq_of_lt hb0 (by simp; omega)] at *
    simp [DoV, dVal, dErr, opV, h]
  · simp [wide] at h
    simp [DoV, dVal, dErr, opV, wide, h]
theorem do_err (nar : Bool) (op b : Int) (h : op = 1 ∨ op = 2 ∨ op = 3 ∨ op = 13) : DoE nar op b = 0 := by
  rcases h with rfl | rfl | rfl | rfl <;> cases nar <;> simp [DoE, dErr]
theorem do_err4 (nar : Bool) (op b : Int) (hb0 : 0 ≤ b) (hb1 : b ≤ 18446744073709551615) (h : op = 4 ∨ op = 5) : DoE nar op b = if b % wide nar = 0 then 113 else 0 := by
  cases nar
  · have e : b % wide false = b := Int.emod_eq_of_lt hb0 (by simp [wide]; omega)
    rw [e]
    rcases h with rfl | rfl <;> simp [DoE, dErr]
  · rcases h with rfl | rfl <;> simp [DoE, dErr, wide]
theorem wide_pos (nar : Bool) : 0 < wide nar ∧ wide nar ≤ 18446744073709551616 := by cases nar <;> simp [wide]
theorem is_pair (nar : Bool) (p q a b : Int) (h : (p, q) ∈ [((17 : Int), (18 : Int)), (19, 22), (20, 21), (23, 26), (24, 25)]) : IsV nar q a b = !IsV nar p a b := by
  simp at h
  have l1 (x y : Int) : decide (x ≤ y) = !decide (y < x) := by rw [Bool.eq_iff_iff]; simp
  have l2 (x y : Int) : decide (x < y) = !decide (y ≤ x) := by rw [Bool.eq_iff_iff]; simp
  rcases h with ⟨rfl, rfl⟩ | ⟨rfl, rfl⟩ | ⟨rfl, rfl⟩ | ⟨rfl, rfl⟩ | ⟨rfl, rfl⟩ <;> cases nar
  · rfl
  · rfl
  · exact l1 _ _
  · exact l1 _ _
  · exact l2 _ _
  · exact l2 _ _
  · exact l1 _ _
  · exact l1 _ _
  · exact l2 _ _
  · exact l2 _ _
theorem DoV_of (nar : Bool) (op a b : Int) : DoV nar op a b = if DoE nar op b = 0 then DoV nar op a b else 0 := by
  cases nar <;> simp only [DoV, DoE, dVal] <;> split <;> simp_all
/-- A quotient and its rest make the number. -/
theorem make (M a b : Int) (hM : 0 < M) : ((a % M / (b % M) * b) % M + a % M % (b % M)) % M = a % M := by
  have h1 : (a % M / (b % M) * b) % M = (a % M / (b % M) * (b % M)) % M := by
    rw [Int.mul_emod, Int.mul_emod (a % M / (b % M)) (b % M), Int.emod_emod]
  rw [h1, Int.emod_add_emod, Int.mul_comm, Int.mul_ediv_add_emod]
  exact Int.emod_emod _ _

def quizC : List Value := [.int .u8 17, .int .u8 18, .int .u8 19, .int .u8 22, .int .u8 20, .int .u8 21, .int .u8 23, .int .u8 26, .int .u8 24, .int .u8 25]
theorem parts_plain (nar : Bool) (a b own oth : Nat) (ha : a < 18446744073709551616) (hb : b < 18446744073709551616) (ho : (own : Int) = a % wide nar) (ht : (oth : Int) = b % wide nar) :
    ∃ s n q r m f e4 e5 : Int, DoV nar 1 a b = s ∧ DoV nar 2 s b = own ∧ DoV nar 13 b a = n ∧ DoV nar 1 s n = own ∧ q = DoV nar 4 a b ∧ r = DoV nar 5 a b ∧ m = DoV nar 3 q b ∧ f = DoV nar 1 m r ∧ e4 = DoE nar 4 b ∧ e5 = DoE nar 5 b ∧
      0 ≤ q ∧ q ≤ 18446744073709551615 ∧ 0 ≤ r ∧ r ≤ 18446744073709551615 ∧ 0 ≤ m ∧ 0 ≤ s ∧ 0 ≤ n ∧ s ≤ 18446744073709551615 ∧ n ≤ 18446744073709551615 ∧ m ≤ 18446744073709551615 ∧
      ((oth = 0 ∧ e4 = 113 ∧ e5 = 113) ∨ (oth ≠ 0 ∧ e4 = 0 ∧ e5 = 0 ∧ f = own ∧ r < oth)) := by
  obtain ⟨m1, m2⟩ := wide_pos nar
  have s1 := Int.emod_nonneg (a + b : Int) (Int.ne_of_gt m1)
  have s2 := Int.emod_lt_of_pos (a + b : Int) m1
  have n1 := Int.emod_nonneg (-b : Int) (Int.ne_of_gt m1)
  have n2 := Int.emod_lt_of_pos (-b : Int) m1
  have v1 : DoV nar 1 a b = (a + b : Int) % wide nar := do_add nar a b
  have v2 : DoV nar 2 ((a + b : Int) % wide nar) b = own := by rw [do_sub, ho, Int.emod_sub_emod]; congr 1; omega
  have v3 : DoV nar 13 b a = (-b : Int) % wide nar := do_neg nar b a
  have v4 : DoV nar 1 ((a + b : Int) % wide nar) ((-b : Int) % wide nar) = own := by rw [do_add, ho, Int.emod_add_emod, Int.add_emod_emod]; congr 1; omega
  obtain ⟨q, hq⟩ : ∃ q, q = DoV nar 4 a b := ⟨_, rfl⟩
  obtain ⟨r, hr⟩ : ∃ q, q = DoV nar 5 a b := ⟨_, rfl⟩
  obtain ⟨m, hm⟩ : ∃ z, z = DoV nar 3 q b := ⟨_, rfl⟩
  obtain ⟨f, hf⟩ : ∃ q, q = DoV nar 1 m r := ⟨_, rfl⟩
  obtain ⟨e4, he4⟩ : ∃ q, q = DoE nar 4 b := ⟨_, rfl⟩
  obtain ⟨e5, he5⟩ : ∃ q, q = DoE nar 5 b := ⟨_, rfl⟩
  have hE4 := do_err4 nar 4 b (by omega) (by omega) (Or.inl rfl)
  have hE5 := do_err4 nar 5 b (by omega) (by omega) (Or.inr rfl)
  rw [← ht] at hE4 hE5
  have hme : m = (q * b) % wide nar := by rw [hm, do_mul]
  have hmr : 0 ≤ m ∧ m < wide nar := by
    rw [hme]
    exact ⟨Int.emod_nonneg _ (Int.ne_of_gt m1), Int.emod_lt_of_pos _ m1⟩
  have hno : (oth : Int) ≠ 0 → q = own / oth ∧ r = own % oth ∧ f = own := by
    intro h0
    have hq2 : q = own / oth := by rw [hq, do_div nar a b (by omega) (by omega) (by omega) (by omega) (by rw [← ht]; exact h0), ho, ht]
    have hr2 : r = own % oth := by rw [hr, do_mod nar a b (by omega) (by omega) (by omega) (by omega) (by rw [← ht]; exact h0), ho, ht]
    refine ⟨hq2, hr2, ?_⟩
    rw [hf, do_add, hme, hq2, hr2, ho, ht]
    exact make _ _ _ m1
  have hz : (oth : Int) = 0 → q = 0 ∧ r = 0 := by
    intro h0
    rw [hq, hr]
    constructor
    · rw [DoV_of]; rw [hE4]; simp [h0]
    · rw [DoV_of]; rw [hE5]; simp [h0]
  have hol : own < 18446744073709551616 := by
    have := Int.emod_lt_of_pos (a : Int) m1
    omega
  have hqr : 0 ≤ q ∧ q ≤ 18446744073709551615 ∧ 0 ≤ r ∧ r ≤ 18446744073709551615 := by
    by_cases h0 : (oth : Int) = 0
    · have := hz h0; omega
    · obtain ⟨h1, h2, -⟩ := hno h0
      rw [h1, h2, div_nat, mod_nat]
      have := Nat.div_le_self own oth
      have := Nat.mod_le own oth
      generalize own / oth = x at *
      generalize own % oth = y at *
      clear h1 h2 hq hr hm hf v1 v2 v3 v4 hme hE4 hE5
      omega
  obtain ⟨q1, q2, r1, r2⟩ := hqr
  obtain ⟨mr1, mr2⟩ := hmr
  have tests : (oth = 0 ∧ e4 = 113 ∧ e5 = 113) ∨ (oth ≠ 0 ∧ e4 = 0 ∧ e5 = 0 ∧ f = own ∧ r < oth) := by
    by_cases h0 : oth = 0
    · exact Or.inl ⟨h0, by rw [he4, hE4]; simp [h0], by rw [he5, hE5]; simp [h0]⟩
    · obtain ⟨h1, h2, h3⟩ := hno (by omega)
      exact Or.inr ⟨h0, by rw [he4, hE4]; simp [h0], by rw [he5, hE5]; simp [h0], h3, by rw [h2]; exact Int.emod_lt_of_pos _ (by omega)⟩
  obtain ⟨s, hs⟩ : ∃ s, s = (a + b : Int) % wide nar := ⟨_, rfl⟩
  obtain ⟨n, hn⟩ : ∃ s, s = (-b : Int) % wide nar := ⟨_, rfl⟩
  rw [← hs] at s1 s2 v1 v2 v4
  rw [← hn] at n1 n2 v3 v4
  have b1 : s ≤ 18446744073709551615 := by omega
  have b2 : n ≤ 18446744073709551615 := by omega
  have b3 : m ≤ 18446744073709551615 := by omega
  exact ⟨s, n, q, r, m, f, e4, e5, v1, v2, v3, v4, hq, hr, hm, hf, he4, he5, q1, q2, r1, r2, mr1, s1, n1, b1, b2, b3, tests⟩
set_option maxRecDepth 100000 in
set_option maxHeartbeats 2000000 in
theorem parts_true (a b own oth : Nat) (ha : a < 18446744073709551616) (hb : b < 18446744073709551616) (ho : (own : Int) = a % wide true) (ht : (oth : Int) = b % wide true) (w : World) :
    Calls Try.prog 6 #[.bool true, .int .u64 a, .int .u64 b] w fun e w' => e = .returned (.bool true) ∧ Below w.heap.size w w' := by
  obtain ⟨s, n, q, r, m, f, e4, e5, v1, v2, v3, v4, hq, hr, hm, hf, he4, he5, q1, q2, r1, r2, mr1, s1, n1, b1, b2, b3, tests⟩ := parts_plain true a b own oth ha hb ho ht
  have ow : bits BinOp.and .u64 (a : Int) 4294967295 = own := by rw [low_eq _ (by omega) (by omega), ho]; rfl
  have ot : bits BinOp.and .u64 (b : Int) 4294967295 = oth := by rw [low_eq _ (by omega) (by omega), ht]; rfl
  clear ho ht
  replace v1 := Lib.hid v1
  replace v2 := Lib.hid v2
  replace v3 := Lib.hid v3
  replace v4 := Lib.hid v4
  replace hq := Lib.hid hq
  replace hr := Lib.hid hr
  replace hm := Lib.hid hm
  replace hf := Lib.hid hf
  replace he4 := Lib.hid he4
  replace he5 := Lib.hid he5
  replace tests := Lib.hid tests
  go_enter Try.func6, Try.ntmps6
  go_wp2_with fail
  refine (awake_any _).mono ?_
  rintro e w1 ⟨rfl, hB1⟩
  go_wp2_with fail
  refine (Do_lit true 1 (a : Int) (b : Int) s 0 _ (by omega) (by omega) (by omega) (by omega) v1.out (do_err true _ _ (by decide))).mono ?_
  rintro e w2 ⟨rfl, hb2⟩
  have hB2 := hB1.trans (hb2.mono hB1.size)
  clear hb2 hB1
  go_wp2_with fail
  refine (Do_lit true 2 s (b : Int) own 0 _ s1 b1 (by omega) (by omega) v2.out (do_err true _ _ (by decide))).mono ?_
  rintro e w3 ⟨rfl, hb3⟩
  have hB3 := hB2.trans (hb3.mono hB2.size)
  clear hb3 hB2
  go_wp2_with fail
  refine (Do_lit true 13 (b : Int) (a : Int) n 0 _ (by omega) (by omega) (by omega) (by omega) v3.out (do_err true _ _ (by decide))).mono ?_
  rintro e w4 ⟨rfl, hb4⟩
  have hB4 := hB3.trans (hb4.mono hB3.size)
  clear hb4 hB3
  go_wp2_with fail
  refine (Do_lit true 1 s n own 0 _ s1 b1 n1 b2 v4.out (do_err true _ _ (by decide))).mono ?_
  rintro e w5 ⟨rfl, hb5⟩
  have hB5 := hB4.trans (hb5.mono hB4.size)
  clear hb5 hB4
  go_wp2_with fail
  refine (Do_lit true 4 (a : Int) (b : Int) q e4 _ (by omega) (by omega) (by omega) (by omega) hq.out.symm he4.out.symm).mono ?_
  rintro e w6 ⟨rfl, hb6⟩
  have hB6 := hB5.trans (hb6.mono hB5.size)
  clear hb6 hB5
  go_wp2_with fail
  refine (Do_lit true 5 (a : Int) (b : Int) r e5 _ (by omega) (by omega) (by omega) (by omega) hr.out.symm he5.out.symm).mono ?_
  rintro e w7 ⟨rfl, hb7⟩
  have hB7 := hB6.trans (hb7.mono hB6.size)
  clear hb7 hB6
  go_wp2_with fail
  refine (Do_lit true 3 q (b : Int) m 0 _ q1 q2 (by omega) (by omega) hm.out.symm (do_err true _ _ (by decide))).mono ?_
  rintro e w8 ⟨rfl, hb8⟩
  have hB8 := hB7.trans (hb8.mono hB7.size)
  clear hb8 hB7
  go_wp2_with fail
  clear v1 v2 v3 v4 hq hr hm he4 he5
  rcases tests.out with ⟨t1, t2, t3⟩ | ⟨t1, t2, t3, t4, t5⟩
  · subst t1 t2 t3
    refine (Do_lit true 1 m r f 0 _ mr1 b3 r1 r2 hf.out.symm (do_err true _ _ (by decide))).mono ?_
    rintro e w9 ⟨rfl, hb9⟩
    have hB9 := hB8.trans (hb9.mono hB8.size)
    clear hb9 hB8
    have bk : Bk (w9.alloc (.cells quizC.toArray 34)) w9.heap.size 34 quizC := Bk.new w9 34 quizC
    have hA : Below w.heap.size w (w9.alloc (.cells quizC.toArray 34)) := hB9.alloc hB9.size _
    have hlt : w.heap.size ≤ w9.heap.size := hB9.size
    replace bk := Lib.hid bk
    replace hA := Lib.hid hA
    clear hB9 tests
    go_wp2_with fail
    go_loopw [26] (fun i wr => (i = .int .i64 0 ∨ i = .int .i64 1 ∨ i = .int .i64 2 ∨ i = .int .i64 3 ∨ i = .int .i64 4 ∨ i = .int .i64 5) ∧ Bk wr w9.heap.size 34 quizC ∧ Below w.heap.size w wr) (fun i _ => 5 - (intOf i).toNat)
    case atStart => exact ⟨Or.inl rfl, bk.out, hA.out⟩
    case round =>
      clear bk hA
      obtain ⟨hk, bk, hB⟩ := hrel
      rcases hk with rfl | rfl | rfl | rfl | rfl | rfl
      · have c0 : wr.cell? ⟨w9.heap.size, 0, none⟩ = some (.int .u8 17) := bk.cell 0
        have c1 : wr.cell? ⟨w9.heap.size, 1, none⟩ = some (.int .u8 18) := bk.cell 1
        have hp := is_pair true 17 18 (a : Int) (b : Int) (by decide)
        obtain ⟨p, hpp⟩ : ∃ p, IsV true 17 (a : Int) (b : Int) = p := ⟨_, rfl⟩
        rw [hpp] at hp
        replace hp := Lib.hid hp
        replace hpp := Lib.hid hpp
        go_wp2_with fail
        refine (Is_lit true 17 (a : Int) (b : Int) p 0 _ (by decide) (by omega) (by omega) (by omega) (by omega) hpp.out rfl).mono ?_
        rintro e w10 ⟨rfl, rfl⟩
        go_wp2_with fail
        refine (Is_lit true 18 (a : Int) (b : Int) (!p) 0 _ (by decide) (by omega) (by omega) (by omega) (by omega) hp.out rfl).mono ?_
        rintro e w10 ⟨rfl, rfl⟩
        clear hp hpp
        cases p <;> go_wp2_with fail
        all_goals
          go_roundw
          case rel => exact ⟨by simp, bk, hB⟩
          case measure => decide
      · have c0 : wr.cell? ⟨w9.heap.size, 2, none⟩ = some (.int .u8 19) := bk.cell 2
        have c1 : wr.cell? ⟨w9.heap.size, 3, none⟩ = some (.int .u8 22) := bk.cell 3
        have hp := is_pair true 19 22 (a : Int) (b : Int) (by decide)
        obtain ⟨p, hpp⟩ : ∃ p, IsV true 19 (a : Int) (b : Int) = p := ⟨_, rfl⟩
        rw [hpp] at hp
        replace hp := Lib.hid hp
        replace hpp := Lib.hid hpp
        go_wp2_with fail
        refine (Is_lit true 19 (a : Int) (b : Int) p 0 _ (by decide) (by omega) (by omega) (by omega) (by omega) hpp.out rfl).mono ?_
        rintro e w10 ⟨rfl, rfl⟩
        go_wp2_with fail
        refine (Is_lit true 22 (a : Int) (b : Int) (!p) 0 _ (by decide) (by omega) (by omega) (by omega) (by omega) hp.out rfl).mono ?_
        rintro e w10 ⟨rfl, rfl⟩
        clear hp hpp
        cases p <;> go_wp2_with fail
        all_goals
          go_roundw
          case rel => exact ⟨by simp, bk, hB⟩
          case measure => decide
      · have c0 : wr.cell? ⟨w9.heap.size, 4, none⟩ = some (.int .u8 20) := bk.cell 4
        have c1 : wr.cell? ⟨w9.heap.size, 5, none⟩ = some (.int .u8 21) := bk.cell 5
        have hp := is_pair true 20 21 (a : Int) (b : Int) (by decide)
        obtain ⟨p, hpp⟩ : ∃ p, IsV true 20 (a : Int) (b : Int) = p := ⟨_, rfl⟩
        rw [hpp] at hp
        replace hp := Lib.hid hp
        replace hpp := Lib.hid hpp
        go_wp2_with fail
        refine (Is_lit true 20 (a : Int) (b : Int) p 0 _ (by decide) (by omega) (by omega) (by omega) (by omega) hpp.out rfl).mono ?_
        rintro e w10 ⟨rfl, rfl⟩
        go_wp2_with fail
        refine (Is_lit true 21 (a : Int) (b : Int) (!p) 0 _ (by decide) (by omega) (by omega) (by omega) (by omega) hp.out rfl).mono ?_
        rintro e w10 ⟨rfl, rfl⟩
        clear hp hpp
        cases p <;> go_wp2_with fail
        all_goals
          go_roundw
          case rel => exact ⟨by simp, bk, hB⟩
          case measure => decide
      · have c0 : wr.cell? ⟨w9.heap.size, 6, none⟩ = some (.int .u8 23) := bk.cell 6
        have c1 : wr.cell? ⟨w9.heap.size, 7, none⟩ = some (.int .u8 26) := bk.cell 7
        have hp := is_pair true 23 26 (a : Int) (b : Int) (by decide)
        obtain ⟨p, hpp⟩ : ∃ p, IsV true 23 (a : Int) (b : Int) = p := ⟨_, rfl⟩
        rw [hpp] at hp
        replace hp := Lib.hid hp
        replace hpp := Lib.hid hpp
        go_wp2_with fail
        refine (Is_lit true 23 (a : Int) (b : Int) p 0 _ (by decide) (by omega) (by omega) (by omega) (by omega) hpp.out rfl).mono ?_
        rintro e w10 ⟨rfl, rfl⟩
        go_wp2_with fail
        refine (Is_lit true 26 (a : Int) (b : Int) (!p) 0 _ (by decide) (by omega) (by omega) (by omega) (by omega) hp.out rfl).mono ?_
        rintro e w10 ⟨rfl, rfl⟩
        clear hp hpp
        cases p <;> go_wp2_with fail
        all_goals
          go_roundw
          case rel => exact ⟨by simp, bk, hB⟩
          case measure => decide
      · have c0 : wr.cell? ⟨w9.heap.size, 8, none⟩ = some (.int .u8 24) := bk.cell 8
        have c1 : wr.cell? ⟨w9.heap.size, 9, none⟩ = some (.int .u8 25) := bk.cell 9
        have hp := is_pair true 24 25 (a : Int) (b : Int) (by decide)
        obtain ⟨p, hpp⟩ : ∃ p, IsV true 24 (a : Int) (b : Int) = p := ⟨_, rfl⟩
        rw [hpp] at hp
        replace hp := Lib.hid hp
        replace hpp := Lib.hid hpp
        go_wp2_with fail
        refine (Is_lit true 24 (a : Int) (b : Int) p 0 _ (by decide) (by omega) (by omega) (by omega) (by omega) hpp.out rfl).mono ?_
        rintro e w10 ⟨rfl, rfl⟩
        go_wp2_with fail
        refine (Is_lit true 25 (a : Int) (b : Int) (!p) 0 _ (by decide) (by omega) (by omega) (by omega) (by omega) hp.out rfl).mono ?_
        rintro e w10 ⟨rfl, rfl⟩
        clear hp hpp
        cases p <;> go_wp2_with fail
        all_goals
          go_roundw
          case rel => exact ⟨by simp, bk, hB⟩
          case measure => decide
      · go_wp2_with fail
        go_ret
        exact ⟨rfl, hB⟩
  · subst t2 t3
    have c1 : ((oth : Int) == 0) = false := beq_eq_false_iff_ne.2 (by omega)
    have c2 : decide ((oth : Int) ≤ r) = false := decide_eq_false (by omega)
    refine (Do_lit true 1 m r own 0 _ mr1 b3 r1 r2 (hf.out.symm.trans t4) (do_err true _ _ (by decide))).mono ?_
    rintro e w9 ⟨rfl, hb9⟩
    have hB9 := hB8.trans (hb9.mono hB8.size)
    clear hb9 hB8
    have bk : Bk (w9.alloc (.cells quizC.toArray 34)) w9.heap.size 34 quizC := Bk.new w9 34 quizC
    have hA : Below w.heap.size w (w9.alloc (.cells quizC.toArray 34)) := hB9.alloc hB9.size _
    have hlt : w.heap.size ≤ w9.heap.size := hB9.size
    replace bk := Lib.hid bk
    replace hA := Lib.hid hA
    clear hB9 tests
    go_wp2_with fail
    go_loopw [26] (fun i wr => (i = .int .i64 0 ∨ i = .int .i64 1 ∨ i = .int .i64 2 ∨ i = .int .i64 3 ∨ i = .int .i64 4 ∨ i = .int .i64 5) ∧ Bk wr w9.heap.size 34 quizC ∧ Below w.heap.size w wr) (fun i _ => 5 - (intOf i).toNat)
    case atStart => exact ⟨Or.inl rfl, bk.out, hA.out⟩
    case round =>
      clear bk hA
      obtain ⟨hk, bk, hB⟩ := hrel
      rcases hk with rfl | rfl | rfl | rfl | rfl | rfl
      · have c0 : wr.cell? ⟨w9.heap.size, 0, none⟩ = some (.int .u8 17) := bk.cell 0
        have c1 : wr.cell? ⟨w9.heap.size, 1, none⟩ = some (.int .u8 18) := bk.cell 1
        have hp := is_pair true 17 18 (a : Int) (b : Int) (by decide)
        obtain ⟨p, hpp⟩ : ∃ p, IsV true 17 (a : Int) (b : Int) = p := ⟨_, rfl⟩
        rw [hpp] at hp
        replace hp := Lib.hid hp
        replace hpp := Lib.hid hpp
        go_wp2_with fail
        refine (Is_lit true 17 (a : Int) (b : Int) p 0 _ (by decide) (by omega) (by omega) (by omega) (by omega) hpp.out rfl).mono ?_
        rintro e w10 ⟨rfl, rfl⟩
        go_wp2_with fail
        refine (Is_lit true 18 (a : Int) (b : Int) (!p) 0 _ (by decide) (by omega) (by omega) (by omega) (by omega) hp.out rfl).mono ?_
        rintro e w10 ⟨rfl, rfl⟩
        clear hp hpp
        cases p <;> go_wp2_with fail
        all_goals
          go_roundw
          case rel => exact ⟨by simp, bk, hB⟩
          case measure => decide
      · have c0 : wr.cell? ⟨w9.heap.size, 2, none⟩ = some (.int .u8 19) := bk.cell 2
        have c1 : wr.cell? ⟨w9.heap.size, 3, none⟩ = some (.int .u8 22) := bk.cell 3
        have hp := is_pair true 19 22 (a : Int) (b : Int) (by decide)
        obtain ⟨p, hpp⟩ : ∃ p, IsV true 19 (a : Int) (b : Int) = p := ⟨_, rfl⟩
        rw [hpp] at hp
        replace hp := Lib.hid hp
        replace hpp := Lib.hid hpp
        go_wp2_with fail
        refine (Is_lit true 19 (a : Int) (b : Int) p 0 _ (by decide) (by omega) (by omega) (by omega) (by omega) hpp.out rfl).mono ?_
        rintro e w10 ⟨rfl, rfl⟩
        go_wp2_with fail
        refine (Is_lit true 22 (a : Int) (b : Int) (!p) 0 _ (by decide) (by omega) (by omega) (by omega) (by omega) hp.out rfl).mono ?_
        rintro e w10 ⟨rfl, rfl⟩
        clear hp hpp
        cases p <;> go_wp2_with fail
        all_goals
          go_roundw
          case rel => exact ⟨by simp, bk, hB⟩
          case measure => decide
      · have c0 : wr.cell? ⟨w9.heap.size, 4, none⟩ = some (.int .u8 20) := bk.cell 4
        have c1 : wr.cell? ⟨w9.heap.size, 5, none⟩ = some (.int .u8 21) := bk.cell 5
        have hp := is_pair true 20 21 (a : Int) (b : Int) (by decide)
        obtain ⟨p, hpp⟩ : ∃ p, IsV true 20 (a : Int) (b : Int) = p := ⟨_, rfl⟩
        rw [hpp] at hp
        replace hp := Lib.hid hp
        replace hpp := Lib.hid hpp
        go_wp2_with fail
        refine (Is_lit true 20 (a : Int) (b : Int) p 0 _ (by decide) (by omega) (by omega) (by omega) (by omega) hpp.out rfl).mono ?_
        rintro e w10 ⟨rfl, rfl⟩
        go_wp2_with fail
        refine (Is_lit true 21 (a : Int) (b : Int) (!p) 0 _ (by decide) (by omega) (by omega) (by omega) (by omega) hp.out rfl).mono ?_
        rintro e w10 ⟨rfl, rfl⟩
        clear hp hpp
        cases p <;> go_wp2_with fail
        all_goals
          go_roundw
          case rel => exact ⟨by simp, bk, hB⟩
          case measure => decide
      · have c0 : wr.cell? ⟨w9.heap.size, 6, none⟩ = some (.int .u8 23) := bk.cell 6
        have c1 : wr.cell? ⟨w9.heap.size, 7, none⟩ = some (.int .u8 26) := bk.cell 7
        have hp := is_pair true 23 26 (a : Int) (b : Int) (by decide)
        obtain ⟨p, hpp⟩ : ∃ p, IsV true 23 (a : Int) (b : Int) = p := ⟨_, rfl⟩
        rw [hpp] at hp
        replace hp := Lib.hid hp
        replace hpp := Lib.hid hpp
        go_wp2_with fail
        refine (Is_lit true 23 (a : Int) (b : Int) p 0 _ (by decide) (by omega) (by omega) (by omega) (by omega) hpp.out rfl).mono ?_
        rintro e w10 ⟨rfl, rfl⟩
        go_wp2_with fail
        refine (Is_lit true 26 (a : Int) (b : Int) (!p) 0 _ (by decide) (by omega) (by omega) (by omega) (by omega) hp.out rfl).mono ?_
        rintro e w10 ⟨rfl, rfl⟩
        clear hp hpp
        cases p <;> go_wp2_with fail
        all_goals
          go_roundw
          case rel => exact ⟨by simp, bk, hB⟩
          case measure => decide
      · have c0 : wr.cell? ⟨w9.heap.size, 8, none⟩ = some (.int .u8 24) := bk.cell 8
        have c1 : wr.cell? ⟨w9.heap.size, 9, none⟩ = some (.int .u8 25) := bk.cell 9
        have hp := is_pair true 24 25 (a : Int) (b : Int) (by decide)
        obtain ⟨p, hpp⟩ : ∃ p, IsV true 24 (a : Int) (b : Int) = p := ⟨_, rfl⟩
        rw [hpp] at hp
        replace hp := Lib.hid hp
        replace hpp := Lib.hid hpp
        go_wp2_with fail
        refine (Is_lit true 24 (a : Int) (b : Int) p 0 _ (by decide) (by omega) (by omega) (by omega) (by omega) hpp.out rfl).mono ?_
        rintro e w10 ⟨rfl, rfl⟩
        go_wp2_with fail
        refine (Is_lit true 25 (a : Int) (b : Int) (!p) 0 _ (by decide) (by omega) (by omega) (by omega) (by omega) hp.out rfl).mono ?_
        rintro e w10 ⟨rfl, rfl⟩
        clear hp hpp
        cases p <;> go_wp2_with fail
        all_goals
          go_roundw
          case rel => exact ⟨by simp, bk, hB⟩
          case measure => decide
      · go_wp2_with fail
        go_ret
        exact ⟨rfl, hB⟩
set_option maxRecDepth 100000 in
set_option maxHeartbeats 2000000 in
theorem parts_false (a b own oth : Nat) (ha : a < 18446744073709551616) (hb : b < 18446744073709551616) (ho : (own : Int) = a % wide false) (ht : (oth : Int) = b % wide false) (w : World) :
    Calls Try.prog 6 #[.bool false, .int .u64 a, .int .u64 b] w fun e w' => e = .returned (.bool true) ∧ Below w.heap.size w w' := by
  obtain ⟨s, n, q, r, m, f, e4, e5, v1, v2, v3, v4, hq, hr, hm, hf, he4, he5, q1, q2, r1, r2, mr1, s1, n1, b1, b2, b3, tests⟩ := parts_plain false a b own oth ha hb ho ht
  obtain rfl : own = a := by simp only [wide, Bool.false_eq_true, if_false] at ho; omega
  obtain rfl : oth = b := by simp only [wide, Bool.false_eq_true, if_false] at ht; omega
  clear ho ht
  replace v1 := Lib.hid v1
  replace v2 := Lib.hid v2
  replace v3 := Lib.hid v3
  replace v4 := Lib.hid v4
  replace hq := Lib.hid hq
  replace hr := Lib.hid hr
  replace hm := Lib.hid hm
  replace hf := Lib.hid hf
  replace he4 := Lib.hid he4
  replace he5 := Lib.hid he5
  replace tests := Lib.hid tests
  go_enter Try.func6, Try.ntmps6
  go_wp2_with fail
  refine (awake_any _).mono ?_
  rintro e w1 ⟨rfl, hB1⟩
  go_wp2_with fail
  refine (Do_lit false 1 (own : Int) (oth : Int) s 0 _ (by omega) (by omega) (by omega) (by omega) v1.out (do_err false _ _ (by decide))).mono ?_
  rintro e w2 ⟨rfl, hb2⟩
  have hB2 := hB1.trans (hb2.mono hB1.size)
  clear hb2 hB1
  go_wp2_with fail
  refine (Do_lit false 2 s (oth : Int) own 0 _ s1 b1 (by omega) (by omega) v2.out (do_err false _ _ (by decide))).mono ?_
  rintro e w3 ⟨rfl, hb3⟩
  have hB3 := hB2.trans (hb3.mono hB2.size)
  clear hb3 hB2
  go_wp2_with fail
  refine (Do_lit false 13 (oth : Int) (own : Int) n 0 _ (by omega) (by omega) (by omega) (by omega) v3.out (do_err false _ _ (by decide))).mono ?_
  rintro e w4 ⟨rfl, hb4⟩
  have hB4 := hB3.trans (hb4.mono hB3.size)
  clear hb4 hB3
  go_wp2_with fail
  refine (Do_lit false 1 s n own 0 _ s1 b1 n1 b2 v4.out (do_err false _ _ (by decide))).mono ?_
  rintro e w5 ⟨rfl, hb5⟩
  have hB5 := hB4.trans (hb5.mono hB4.size)
  clear hb5 hB4
  go_wp2_with fail
  refine (Do_lit false 4 (own : Int) (oth : Int) q e4 _ (by omega) (by omega) (by omega) (by omega) hq.out.symm he4.out.symm).mono ?_
  rintro e w6 ⟨rfl, hb6⟩
  have hB6 := hB5.trans (hb6.mono hB5.size)
  clear hb6 hB5
  go_wp2_with fail
  refine (Do_lit false 5 (own : Int) (oth : Int) r e5 _ (by omega) (by omega) (by omega) (by omega) hr.out.symm he5.out.symm).mono ?_
  rintro e w7 ⟨rfl, hb7⟩
  have hB7 := hB6.trans (hb7.mono hB6.size)
  clear hb7 hB6
  go_wp2_with fail
  refine (Do_lit false 3 q (oth : Int) m 0 _ q1 q2 (by omega) (by omega) hm.out.symm (do_err false _ _ (by decide))).mono ?_
  rintro e w8 ⟨rfl, hb8⟩
  have hB8 := hB7.trans (hb8.mono hB7.size)
  clear hb8 hB7
  go_wp2_with fail
  clear v1 v2 v3 v4 hq hr hm he4 he5
  rcases tests.out with ⟨t1, t2, t3⟩ | ⟨t1, t2, t3, t4, t5⟩
  · subst t1 t2 t3
    refine (Do_lit false 1 m r f 0 _ mr1 b3 r1 r2 hf.out.symm (do_err false _ _ (by decide))).mono ?_
    rintro e w9 ⟨rfl, hb9⟩
    have hB9 := hB8.trans (hb9.mono hB8.size)
    clear hb9 hB8
    have bk : Bk (w9.alloc (.cells quizC.toArray 34)) w9.heap.size 34 quizC := Bk.new w9 34 quizC
    have hA : Below w.heap.size w (w9.alloc (.cells quizC.toArray 34)) := hB9.alloc hB9.size _
    have hlt : w.heap.size ≤ w9.heap.size := hB9.size
    replace bk := Lib.hid bk
    replace hA := Lib.hid hA
    clear hB9 tests
    go_wp2_with fail
    go_loopw [26] (fun i wr => (i = .int .i64 0 ∨ i = .int .i64 1 ∨ i = .int .i64 2 ∨ i = .int .i64 3 ∨ i = .int .i64 4 ∨ i = .int .i64 5) ∧ Bk wr w9.heap.size 34 quizC ∧ Below w.heap.size w wr) (fun i _ => 5 - (intOf i).toNat)
    case atStart => exact ⟨Or.inl rfl, bk.out, hA.out⟩
    case round =>
      clear bk hA
      obtain ⟨hk, bk, hB⟩ := hrel
      rcases hk with rfl | rfl | rfl | rfl | rfl | rfl
      · have c0 : wr.cell? ⟨w9.heap.size, 0, none⟩ = some (.int .u8 17) := bk.cell 0
        have c1 : wr.cell? ⟨w9.heap.size, 1, none⟩ = some (.int .u8 18) := bk.cell 1
        have hp := is_pair false 17 18 (own : Int) (0 : Int) (by decide)
        obtain ⟨p, hpp⟩ : ∃ p, IsV false 17 (own : Int) (0 : Int) = p := ⟨_, rfl⟩
        rw [hpp] at hp
        replace hp := Lib.hid hp
        replace hpp := Lib.hid hpp
        go_wp2_with fail
        refine (Is_lit false 17 (own : Int) (0 : Int) p 0 _ (by decide) (by omega) (by omega) (by omega) (by omega) hpp.out rfl).mono ?_
        rintro e w10 ⟨rfl, rfl⟩
        go_wp2_with fail
        refine (Is_lit false 18 (own : Int) (0 : Int) (!p) 0 _ (by decide) (by omega) (by omega) (by omega) (by omega) hp.out rfl).mono ?_
        rintro e w10 ⟨rfl, rfl⟩
        clear hp hpp
        cases p <;> go_wp2_with fail
        all_goals
          go_roundw
          case rel => exact ⟨by simp, bk, hB⟩
          case measure => decide
      · have c0 : wr.cell? ⟨w9.heap.size, 2, none⟩ = some (.int .u8 19) := bk.cell 2
        have c1 : wr.cell? ⟨w9.heap.size, 3, none⟩ = some (.int .u8 22) := bk.cell 3
        have hp := is_pair false 19 22 (own : Int) (0 : Int) (by decide)
        obtain ⟨p, hpp⟩ : ∃ p, IsV false 19 (own : Int) (0 : Int) = p := ⟨_, rfl⟩
        rw [hpp] at hp
        replace hp := Lib.hid hp
        replace hpp := Lib.hid hpp
        go_wp2_with fail
        refine (Is_lit false 19 (own : Int) (0 : Int) p 0 _ (by decide) (by omega) (by omega) (by omega) (by omega) hpp.out rfl).mono ?_
        rintro e w10 ⟨rfl, rfl⟩
        go_wp2_with fail
        refine (Is_lit false 22 (own : Int) (0 : Int) (!p) 0 _ (by decide) (by omega) (by omega) (by omega) (by omega) hp.out rfl).mono ?_
        rintro e w10 ⟨rfl, rfl⟩
        clear hp hpp
        cases p <;> go_wp2_with fail
        all_goals
          go_roundw
          case rel => exact ⟨by simp, bk, hB⟩
          case measure => decide
      · have c0 : wr.cell? ⟨w9.heap.size, 4, none⟩ = some (.int .u8 20) := bk.cell 4
        have c1 : wr.cell? ⟨w9.heap.size, 5, none⟩ = some (.int .u8 21) := bk.cell 5
        have hp := is_pair false 20 21 (own : Int) (0 : Int) (by decide)
        obtain ⟨p, hpp⟩ : ∃ p, IsV false 20 (own : Int) (0 : Int) = p := ⟨_, rfl⟩
        rw [hpp] at hp
        replace hp := Lib.hid hp
        replace hpp := Lib.hid hpp
        go_wp2_with fail
        refine (Is_lit false 20 (own : Int) (0 : Int) p 0 _ (by decide) (by omega) (by omega) (by omega) (by omega) hpp.out rfl).mono ?_
        rintro e w10 ⟨rfl, rfl⟩
        go_wp2_with fail
        refine (Is_lit false 21 (own : Int) (0 : Int) (!p) 0 _ (by decide) (by omega) (by omega) (by omega) (by omega) hp.out rfl).mono ?_
        rintro e w10 ⟨rfl, rfl⟩
        clear hp hpp
        cases p <;> go_wp2_with fail
        all_goals
          go_roundw
          case rel => exact ⟨by simp, bk, hB⟩
          case measure => decide
      · have c0 : wr.cell? ⟨w9.heap.size, 6, none⟩ = some (.int .u8 23) := bk.cell 6
        have c1 : wr.cell? ⟨w9.heap.size, 7, none⟩ = some (.int .u8 26) := bk.cell 7
        have hp := is_pair false 23 26 (own : Int) (0 : Int) (by decide)
        obtain ⟨p, hpp⟩ : ∃ p, IsV false 23 (own : Int) (0 : Int) = p := ⟨_, rfl⟩
        rw [hpp] at hp
        replace hp := Lib.hid hp
        replace hpp := Lib.hid hpp
        go_wp2_with fail
        refine (Is_lit false 23 (own : Int) (0 : Int) p 0 _ (by decide) (by omega) (by omega) (by omega) (by omega) hpp.out rfl).mono ?_
        rintro e w10 ⟨rfl, rfl⟩
        go_wp2_with fail
        refine (Is_lit false 26 (own : Int) (0 : Int) (!p) 0 _ (by decide) (by omega) (by omega) (by omega) (by omega) hp.out rfl).mono ?_
        rintro e w10 ⟨rfl, rfl⟩
        clear hp hpp
        cases p <;> go_wp2_with fail
        all_goals
          go_roundw
          case rel => exact ⟨by simp, bk, hB⟩
          case measure => decide
      · have c0 : wr.cell? ⟨w9.heap.size, 8, none⟩ = some (.int .u8 24) := bk.cell 8
        have c1 : wr.cell? ⟨w9.heap.size, 9, none⟩ = some (.int .u8 25) := bk.cell 9
        have hp := is_pair false 24 25 (own : Int) (0 : Int) (by decide)
        obtain ⟨p, hpp⟩ : ∃ p, IsV false 24 (own : Int) (0 : Int) = p := ⟨_, rfl⟩
        rw [hpp] at hp
        replace hp := Lib.hid hp
        replace hpp := Lib.hid hpp
        go_wp2_with fail
        refine (Is_lit false 24 (own : Int) (0 : Int) p 0 _ (by decide) (by omega) (by omega) (by omega) (by omega) hpp.out rfl).mono ?_
        rintro e w10 ⟨rfl, rfl⟩
        go_wp2_with fail
        refine (Is_lit false 25 (own : Int) (0 : Int) (!p) 0 _ (by decide) (by omega) (by omega) (by omega) (by omega) hp.out rfl).mono ?_
        rintro e w10 ⟨rfl, rfl⟩
        clear hp hpp
        cases p <;> go_wp2_with fail
        all_goals
          go_roundw
          case rel => exact ⟨by simp, bk, hB⟩
          case measure => decide
      · go_wp2_with fail
        go_ret
        exact ⟨rfl, hB⟩
  · subst t2 t3
    have c1 : ((oth : Int) == 0) = false := beq_eq_false_iff_ne.2 (by omega)
    have c2 : decide ((oth : Int) ≤ r) = false := decide_eq_false (by omega)
    refine (Do_lit false 1 m r own 0 _ mr1 b3 r1 r2 (hf.out.symm.trans t4) (do_err false _ _ (by decide))).mono ?_
    rintro e w9 ⟨rfl, hb9⟩
    have hB9 := hB8.trans (hb9.mono hB8.size)
    clear hb9 hB8
    have bk : Bk (w9.alloc (.cells quizC.toArray 34)) w9.heap.size 34 quizC := Bk.new w9 34 quizC
    have hA : Below w.heap.size w (w9.alloc (.cells quizC.toArray 34)) := hB9.alloc hB9.size _
    have hlt : w.heap.size ≤ w9.heap.size := hB9.size
    replace bk := Lib.hid bk
    replace hA := Lib.hid hA
    clear hB9 tests
    go_wp2_with fail
    go_loopw [26] (fun i wr => (i = .int .i64 0 ∨ i = .int .i64 1 ∨ i = .int .i64 2 ∨ i = .int .i64 3 ∨ i = .int .i64 4 ∨ i = .int .i64 5) ∧ Bk wr w9.heap.size 34 quizC ∧ Below w.heap.size w wr) (fun i _ => 5 - (intOf i).toNat)
    case atStart => exact ⟨Or.inl rfl, bk.out, hA.out⟩
    case round =>
      clear bk hA
      obtain ⟨hk, bk, hB⟩ := hrel
      rcases hk with rfl | rfl | rfl | rfl | rfl | rfl
      · have c0 : wr.cell? ⟨w9.heap.size, 0, none⟩ = some (.int .u8 17) := bk.cell 0
        have c1 : wr.cell? ⟨w9.heap.size, 1, none⟩ = some (.int .u8 18) := bk.cell 1
        have hp := is_pair false 17 18 (own : Int) (oth : Int) (by decide)
        obtain ⟨p, hpp⟩ : ∃ p, IsV false 17 (own : Int) (oth : Int) = p := ⟨_, rfl⟩
        rw [hpp] at hp
        replace hp := Lib.hid hp
        replace hpp := Lib.hid hpp
        go_wp2_with fail
        refine (Is_lit false 17 (own : Int) (oth : Int) p 0 _ (by decide) (by omega) (by omega) (by omega) (by omega) hpp.out rfl).mono ?_
        rintro e w10 ⟨rfl, rfl⟩
        go_wp2_with fail
        refine (Is_lit false 18 (own : Int) (oth : Int) (!p) 0 _ (by decide) (by omega) (by omega) (by omega) (by omega) hp.out rfl).mono ?_
        rintro e w10 ⟨rfl, rfl⟩
        clear hp hpp
        cases p <;> go_wp2_with fail
        all_goals
          go_roundw
          case rel => exact ⟨by simp, bk, hB⟩
          case measure => decide
      · have c0 : wr.cell? ⟨w9.heap.size, 2, none⟩ = some (.int .u8 19) := bk.cell 2
        have c1 : wr.cell? ⟨w9.heap.size, 3, none⟩ = some (.int .u8 22) := bk.cell 3
        have hp := is_pair false 19 22 (own : Int) (oth : Int) (by decide)
        obtain ⟨p, hpp⟩ : ∃ p, IsV false 19 (own : Int) (oth : Int) = p := ⟨_, rfl⟩
        rw [hpp] at hp
        replace hp := Lib.hid hp
        replace hpp := Lib.hid hpp
        go_wp2_with fail
        refine (Is_lit false 19 (own : Int) (oth : Int) p 0 _ (by decide) (by omega) (by omega) (by omega) (by omega) hpp.out rfl).mono ?_
        rintro e w10 ⟨rfl, rfl⟩
        go_wp2_with fail
        refine (Is_lit false 22 (own : Int) (oth : Int) (!p) 0 _ (by decide) (by omega) (by omega) (by omega) (by omega) hp.out rfl).mono ?_
        rintro e w10 ⟨rfl, rfl⟩
        clear hp hpp
        cases p <;> go_wp2_with fail
        all_goals
          go_roundw
          case rel => exact ⟨by simp, bk, hB⟩
          case measure => decide
      · have c0 : wr.cell? ⟨w9.heap.size, 4, none⟩ = some (.int .u8 20) := bk.cell 4
        have c1 : wr.cell? ⟨w9.heap.size, 5, none⟩ = some (.int .u8 21) := bk.cell 5
        have hp := is_pair false 20 21 (own : Int) (oth : Int) (by decide)
        obtain ⟨p, hpp⟩ : ∃ p, IsV false 20 (own : Int) (oth : Int) = p := ⟨_, rfl⟩
        rw [hpp] at hp
        replace hp := Lib.hid hp
        replace hpp := Lib.hid hpp
        go_wp2_with fail
        refine (Is_lit false 20 (own : Int) (oth : Int) p 0 _ (by decide) (by omega) (by omega) (by omega) (by omega) hpp.out rfl).mono ?_
        rintro e w10 ⟨rfl, rfl⟩
        go_wp2_with fail
        refine (Is_lit false 21 (own : Int) (oth : Int) (!p) 0 _ (by decide) (by omega) (by omega) (by omega) (by omega) hp.out rfl).mono ?_
        rintro e w10 ⟨rfl, rfl⟩
        clear hp hpp
        cases p <;> go_wp2_with fail
        all_goals
          go_roundw
          case rel => exact ⟨by simp, bk, hB⟩
          case measure => decide
      · have c0 : wr.cell? ⟨w9.heap.size, 6, none⟩ = some (.int .u8 23) := bk.cell 6
        have c1 : wr.cell? ⟨w9.heap.size, 7, none⟩ = some (.int .u8 26) := bk.cell 7
        have hp := is_pair false 23 26 (own : Int) (oth : Int) (by decide)
        obtain ⟨p, hpp⟩ : ∃ p, IsV false 23 (own : Int) (oth : Int) = p := ⟨_, rfl⟩
        rw [hpp] at hp
        replace hp := Lib.hid hp
        replace hpp := Lib.hid hpp
        go_wp2_with fail
        refine (Is_lit false 23 (own : Int) (oth : Int) p 0 _ (by decide) (by omega) (by omega) (by omega) (by omega) hpp.out rfl).mono ?_
        rintro e w10 ⟨rfl, rfl⟩
        go_wp2_with fail
        refine (Is_lit false 26 (own : Int) (oth : Int) (!p) 0 _ (by decide) (by omega) (by omega) (by omega) (by omega) hp.out rfl).mono ?_
        rintro e w10 ⟨rfl, rfl⟩
        clear hp hpp
        cases p <;> go_wp2_with fail
        all_goals
          go_roundw
          case rel => exact ⟨by simp, bk, hB⟩
          case measure => decide
      · have c0 : wr.cell? ⟨w9.heap.size, 8, none⟩ = some (.int .u8 24) := bk.cell 8
        have c1 : wr.cell? ⟨w9.heap.size, 9, none⟩ = some (.int .u8 25) := bk.cell 9
        have hp := is_pair false 24 25 (own : Int) (oth : Int) (by decide)
        obtain ⟨p, hpp⟩ : ∃ p, IsV false 24 (own : Int) (oth : Int) = p := ⟨_, rfl⟩
        rw [hpp] at hp
        replace hp := Lib.hid hp
        replace hpp := Lib.hid hpp
        go_wp2_with fail
        refine (Is_lit false 24 (own : Int) (oth : Int) p 0 _ (by decide) (by omega) (by omega) (by omega) (by omega) hpp.out rfl).mono ?_
        rintro e w10 ⟨rfl, rfl⟩
        go_wp2_with fail
        refine (Is_lit false 25 (own : Int) (oth : Int) (!p) 0 _ (by decide) (by omega) (by omega) (by omega) (by omega) hp.out rfl).mono ?_
        rintro e w10 ⟨rfl, rfl⟩
        clear hp hpp
        cases p <;> go_wp2_with fail
        all_goals
          go_roundw
          case rel => exact ⟨by simp, bk, hB⟩
          case measure => decide
      · go_wp2_with fail
        go_ret
        exact ⟨rfl, hB⟩
theorem AluParts_walk (a0 : Bool) (a1 : Int) (a2 : Int) (w1 : (Lit.int .u64 a1).wf = true) (w2 : (Lit.int .u64 a2).wf = true) (w : World) :
    Calls Try.prog 6 #[.bool a0, .int .u64 a1, .int .u64 a2] w fun e w' => e = .returned (.bool true) ∧ Below w.heap.size w w' := by
  obtain ⟨a, rfl, ha⟩ := u64_ex w1
  obtain ⟨b, rfl, hb⟩ := u64_ex w2
  cases a0 with
  | true => exact parts_true a b (a % 4294967296) (b % 4294967296) ha hb (by simp [wide]) (by simp [wide]) w
  | false => exact parts_false a b a b ha hb (by simp only [wide, Bool.false_eq_true, if_false]; omega) (by simp only [wide, Bool.false_eq_true, if_false]; omega) w
end Go.Proofs.Ytlfgddljmcgggaa
