/- The walk of the statement PacketBack, over this seat's program. -/
import Derived.Test.YtjacbbefdmnmaaaBack
namespace Go.Proofs.Ytjacbbefdmnmaaa
open Go.RowKit Go.Shelf
set_option linter.unusedVariables false

/-- The table of sizes in the statement. -/
theorem tab_at (j : Int) (h0 : 0 ≤ j) (h1 : j < 4) : ∃ (i k : Nat), j = i ∧ i < 4 ∧ ([Value.int .i64 1, .int .i64 2, .int .i64 4, .int .i64 8] : List Value)[i]? = some (.int .i64 k) ∧ (k = 1 ∨ k = 2 ∨ k = 4 ∨ k = 8) := by
  have : j = 0 ∨ j = 1 ∨ j = 2 ∨ j = 3 := by omega
  rcases this with rfl | rfl | rfl | rfl
  · exact ⟨0, 1, rfl, by omega, rfl, by omega⟩
  · exact ⟨1, 2, rfl, by omega, rfl, by omega⟩
  · exact ⟨2, 4, rfl, by omega, rfl, by omega⟩
  · exact ⟨3, 8, rfl, by omega, rfl, by omega⟩

theorem or8 (n x : Int) (h0 : 0 ≤ n) (h1 : n < 72057594037927936) (h2 : 0 ≤ x) (h3 : x < 256) : bits BinOp.or .u64 (n * 256) x = 256 * n + x := by
  obtain ⟨m, rfl⟩ := Int.eq_ofNat_of_zero_le h0
  obtain ⟨y, rfl⟩ := Int.eq_ofNat_of_zero_le h2
  rw [show ((m : Int) * 256) = ((m * 256 : Nat) : Int) by simp, u64_or_nat _ _ (by omega) (by omega)]
  have := Nat.two_pow_add_eq_or_of_lt (i := 8) (b := y) (by omega) m
  rw [show m * 256 = 2 ^ 8 * m by omega, ← this]
  simp
/-- Get over the head of a block that is known whole. -/
theorem get_bk (g n cap : Nat) (xs ys : List Int) (t s : Int) (w : World) (b : Bk w g 5 (u8s (xs ++ ys))) (hl : xs.length = n) (hx : Bytes xs) (hn : n ≤ 1000000) (ht : -9223372036854775808 ≤ t) (ht2 : t ≤ 9223372036854775807) :
    Calls Try.prog 15 #[.slice (some ⟨g, 0, none⟩) n cap, .int .i64 t, .int .i64 s] w fun e w' => e = .returned (.tuple #[.int .u64 (getR xs t s), .int .i64 (errOf n t s)]) ∧ Below w.heap.size w w' := by
  subst hl
  have hR := b.rd (c := cap) b.lt xs.length
  rw [u8s_app, List.take_left' (by simp)] at hR
  exact get_any _ cap xs t s w hR hx hn ht ht2
theorem getR_1 {xs : List Int} {i : Nat} {x : Int} (h : xs[i]? = some x) : getR xs i 1 = x := by
  have hi := (List.getElem?_eq_some_iff.1 h).1
  unfold getR
  rw [if_pos (errOf_0 rfl (by omega) (by omega))]
  simp [getN, h]
theorem getN_u64 {xs : List Int} (h : Bytes xs) (p : Nat) {k : Nat} (hk : k ≤ 8) : 0 ≤ getN xs p k ∧ getN xs p k ≤ 18446744073709551615 := by
  have h1 := getN_bound h p k
  refine ⟨h1.1, ?_⟩
  have h2 : k = 0 ∨ k = 1 ∨ k = 2 ∨ k = 3 ∨ k = 4 ∨ k = 5 ∨ k = 6 ∨ k = 7 ∨ k = 8 := by omega
  have h3 : (256 : Int) ^ k ≤ 18446744073709551616 := by rcases h2 with rfl | rfl | rfl | rfl | rfl | rfl | rfl | rfl | rfl <;> decide
  omega
theorem errOf_1 {n i : Nat} (h : i < n) : errOf n i 1 = 0 := errOf_0 rfl (by omega) (by omega)

set_option maxRecDepth 100000 in
set_option maxHeartbeats 2000000 in
theorem PacketBack_walk (a0 : Option Addr) (len0 cap0 : Nat) (z0 : List Int) (a1 : Int) (a2 : Int) (a3 : Int) (w : World) (w0 : Came .u8 w a0 len0 cap0 z0) (w1 : (Lit.int .i64 a1).wf = true) (w2 : (Lit.int .i64 a2).wf = true) (w3 : (Lit.int .u64 a3).wf = true) :
    Calls Try.prog 6 #[.slice a0 len0 cap0, .int .i64 a1, .int .i64 a2, .int .u64 a3] w fun e w' => e = .returned (.bool true) ∧ Below w.heap.size w w' := by
  obtain ⟨xs, hxl, hR, hx⟩ := w0.rd
  subst hxl
  obtain ⟨v1, v2⟩ := u64_bd w3
  have HR := Lib.hid hR
  clear hR w0 w1 w2 w3
  by_cases hl : 70000 < xs.length
  · have hl' : decide (70000 < xs.length) = true := by simpa using hl
    go_enter Try.func6, Try.ntmps6
    go_wp2_with (go_at_call 7; refine (awake_any _).mono ?_; rintro e w' ⟨rfl, hb⟩)
    go_ret
    exact ⟨rfl, hb⟩
  by_cases hl0 : xs.length = 0
  · have hl' : decide (70000 < xs.length) = false := by simpa using hl
    have hl2 : ((xs.length : Int) == 0) = true := by simp [hl0]
    clear hl0
    go_enter Try.func6, Try.ntmps6
    go_wp2_with (go_at_call 7; refine (awake_any _).mono ?_; rintro e w' ⟨rfl, hb⟩)
    go_ret
    exact ⟨rfl, hb⟩
  obtain ⟨a, rfl, hab, hac⟩ := HR.out.2 (by intro e; exact hl0 (by simpa [u8s] using congrArg List.length e))
  have hl2 : ((xs.length : Int) == 0) = false := beq_eq_false_iff_ne.2 (by omega)
  have hl3 : decide (70000 < (xs.length : Int)) = false := by simp; omega
  have hp4 := pickI_range a2 4 (by omega)
  obtain ⟨j, k, hj, hj4, hjk, hk⟩ := tab_at _ hp4.1 hp4.2
  have HJ := Lib.hid hj
  have HJK := Lib.hid hjk
  clear hj hjk hp4 hac hab
  have hkb : 1 ≤ k ∧ k ≤ 8 := by omega
  by_cases hkn : xs.length < k
  · go_enter Try.func6, Try.ntmps6
    go_wp2_with fail
    refine (awake_any _).mono ?_
    rintro e w1 ⟨rfl, hb1⟩
    go_wp2_with fail
    refine (pick_any _ _ _ (by omega) (by omega)).mono ?_
    rintro e w2 ⟨rfl, rfl⟩
    rw [HJ.out]
    have cj : (w1.alloc (.cells #[.int .i64 1, .int .i64 2, .int .i64 4, .int .i64 8] 3)).cell? ⟨w1.heap.size, j, none⟩ = some (.int .i64 k) := by
      rw [(Bk.new w1 3 [.int .i64 1, .int .i64 2, .int .i64 4, .int .i64 8]).cell]; exact HJK.out
    have hb2 := hb1.alloc hb1.size (.cells #[.int .i64 1, .int .i64 2, .int .i64 4, .int .i64 8] 3)
    go_wp2_with fail
    refine (copy_new a cap0 xs _ ((HR.out.below hb2).mono hb2.size) (by omega) (by omega)).mono ?_
    rintro e w3 ⟨q, rfl, b3, hb3⟩
    have hb3' := hb2.trans (hb3.mono hb2.size)
    simp only [World.size_alloc] at b3
    clear cj hb3 hb2
    go_wp2_with fail
    refine (set_any (w1.heap.size + 1) xs.length (xs.length + q) (xs ++ List.replicate q 0) 0 k a3 _ b3 (by omega) (by simp) (by omega) (by omega) v1 v2).mono ?_
    rintro e w4 ⟨rfl, b4, hg4⟩
    have hE : errOf xs.length 0 k = 112 := errOf_112 (by rcases hk with rfl | rfl | rfl | rfl <;> rfl) (by omega)
    rw [hE]
    clear hE
    have hb4 := hb3'.grown hg4 hb3'.size (fun j e => by injection e with e; have := hb1.size; omega)
    clear hg4 b4 b3
    go_wp2_with fail
    go_ret
    exact ⟨rfl, hb4⟩
  · have hq := pickI_range a1 ((xs.length : Int) - k + 1) (by omega)
    obtain ⟨p, hp⟩ := Int.eq_ofNat_of_zero_le hq.1
    have HP := Lib.hid hp
    have hpk : p + k ≤ xs.length := by omega
    have hsz : okSz k = true := by rcases hk with rfl | rfl | rfl | rfl <;> rfl
    have hE : errOf xs.length p k = 0 := errOf_0 hsz (by omega) (by omega)
    have HE := Lib.hid hE
    clear hp hq hE
    go_enter Try.func6, Try.ntmps6
    go_wp2_with fail
    refine (awake_any _).mono ?_
    rintro e w1 ⟨rfl, hb1⟩
    go_wp2_with fail
    refine (pick_any _ _ _ (by omega) (by omega)).mono ?_
    rintro e w2 ⟨rfl, rfl⟩
    rw [HJ.out]
    have cj : (w1.alloc (.cells #[.int .i64 1, .int .i64 2, .int .i64 4, .int .i64 8] 3)).cell? ⟨w1.heap.size, j, none⟩ = some (.int .i64 k) := by
      rw [(Bk.new w1 3 [.int .i64 1, .int .i64 2, .int .i64 4, .int .i64 8]).cell]; exact HJK.out
    have hb2 := hb1.alloc hb1.size (.cells #[.int .i64 1, .int .i64 2, .int .i64 4, .int .i64 8] 3)
    go_wp2_with fail
    refine (pick_any _ _ _ (by omega) (by omega)).mono ?_
    rintro e w2 ⟨rfl, rfl⟩
    rw [HP.out]
    go_wp2_with fail
    refine (copy_new a cap0 xs _ ((HR.out.below hb2).mono hb2.size) (by omega) (by omega)).mono ?_
    rintro e w3 ⟨q, rfl, b3, hb3⟩
    have hb3' := hb2.trans (hb3.mono hb2.size)
    simp only [World.size_alloc] at b3
    have hgz := hb1.size
    clear cj hb3 hb2
    go_wp2_with fail
    refine (get_bk (w1.heap.size + 1) xs.length (xs.length + q) xs (List.replicate q 0) p k _ b3 rfl hx (by omega) (by omega) (by omega)).mono ?_
    rintro e w4 ⟨rfl, hb4⟩
    have hG1 : getR xs p k = getN xs p k := by unfold getR; rw [if_pos HE.out]; simp
    rw [HE.out, hG1]
    clear hG1
    have b4 := b3.below hb4 b3.lt
    have hb4' := hb3'.trans (hb4.mono hb3'.size)
    clear hb4 b3 hb3'
    go_wp2_with fail
    refine (set_any (w1.heap.size + 1) xs.length (xs.length + q) (xs ++ List.replicate q 0) p k a3 _ b4 (by omega) (by simp) (by omega) (by omega) v1 v2).mono ?_
    rintro e w5 ⟨rfl, b5, hg5⟩
    rw [setA_app, show setR xs p k a3 = setN xs p k a3 by unfold setR; rw [if_pos HE.out]; simp] at b5
    rw [HE.out]
    have hb5 := hb4'.grown hg5 hb4'.size (fun j e => by injection e with e; omega)
    obtain ⟨zs, hzs⟩ : ∃ zs, zs = setN xs p k a3 := ⟨_, rfl⟩
    have hzl : zs.length = xs.length := by rw [hzs]; simp
    have hzb : Bytes zs := by rw [hzs]; exact setN_bytes hx p k a3 hpk
    rw [← hzs] at b5
    have HZ := Lib.hid hzs
    have HZL := Lib.hid hzl
    clear hg5 b4 hb4' hzs hzl
    go_wp2_with fail
    refine (get_bk (w1.heap.size + 1) xs.length (xs.length + q) zs (List.replicate q 0) p k _ b5 HZL.out hzb (by omega) (by omega) (by omega)).mono ?_
    rintro e w6 ⟨rfl, hb6⟩
    have hG1 : getR zs p k = getN zs p k := by unfold getR; rw [HZL.out, if_pos HE.out]; simp
    rw [HE.out, hG1]
    clear hG1
    have b6 := b5.below hb6 b5.lt
    have hb6' := hb5.trans (hb6.mono hb5.size)
    clear hb6 b5 hb5
    have hw : getN zs p k = a3 % 256 ^ k := by
      rw [HZ.out, getN_setN xs p k a3 hpk k (Nat.le_refl _), Nat.sub_self, Int.pow_zero, Int.ediv_one]
    have hg8 := fun (k : Nat) (h : k < 8) => getN_56 hzb p h
    have HG8 := Lib.hid hg8
    clear hg8
    obtain ⟨WT, hWT⟩ : ∃ WT, WT = (if k < 8 then bits BinOp.and .u64 a3 (IntKind.u64.wrap (IntKind.u64.wrap (2 ^ (8 * k)) - 1)) else a3) := ⟨_, rfl⟩
    have hwt : (getN zs p k == WT) = true := by
      rw [hw, hWT]
      by_cases h8 : k < 8
      · rw [if_pos h8]
        have e : IntKind.u64.wrap (IntKind.u64.wrap (2 ^ (8 * k)) - 1) = 256 ^ k - 1 := by
          have : k = 1 ∨ k = 2 ∨ k = 4 := by omega
          rcases this with rfl | rfl | rfl <;> rfl
        rw [e, and_want a3 k v1 v2 (by omega)]
        simp
      · obtain rfl : k = 8 := by omega
        rw [if_neg h8, Int.emod_eq_of_lt v1 (by simp; omega)]
        simp
    clear hw
    have HWT := Lib.hid hWT
    clear hWT
    by_cases h8 : k < 8
    all_goals
      first
        | (have e8 := HWT.out; rw [if_pos h8] at e8; have h8d : decide ((k : Int) < 8) = true := decide_eq_true (by omega))
        | (have e8 := HWT.out; rw [if_neg h8] at e8; have h8d : decide ((k : Int) < 8) = false := decide_eq_false (by omega))
      rw [e8] at hwt
      clear e8
      go_wp2_with fail
      go_loopw [18, 19] (fun n i wr => ∃ t : Nat, t ≤ xs.length ∧ i = .int .i64 t ∧ n = .int .u64 (getN zs p (min (t - p) k)) ∧ Bk wr (w1.heap.size + 1) 5 (u8s (zs ++ List.replicate q 0)) ∧ Below w.heap.size w wr) (fun _ i _ => xs.length - (intOf i).toNat)
      case atStart => exact ⟨0, Nat.zero_le _, rfl, by simp [getN], b6, hb6'⟩
      case round =>
        clear b6 hb6'
        obtain ⟨t, htl, rfl, rfl, b, hb⟩ := hrel
        by_cases htx : t < xs.length
        · obtain ⟨x, cx, hx'⟩ := b.u8 (k := t) (by simp; have := HZL.out; omega)
          have hzx : zs[t]? = some x := by have := hx'.out; rwa [List.getElem?_append_left (by have := HZL.out; omega)] at this
          have hxb := hzb.at_ hzx
          have HZX := Lib.hid hzx
          clear hzx hx'
          go_wp2_with fail
          refine (get_bk (w1.heap.size + 1) xs.length (xs.length + q) zs (List.replicate q 0) t 1 _ b HZL.out hzb (by omega) (by omega) (by omega)).mono ?_
          rintro e w7 ⟨rfl, hb7⟩
          rw [getR_1 HZX.out, errOf_1 htx]
          have b7 := b.below hb7 b.lt
          have cx7 : w7.cell? ⟨w1.heap.size + 1, t, none⟩ = some (.int .u8 x) := by rw [← cx]; exact hb7.cell b.lt
          have hb7' := hb.trans (hb7.mono hb.size)
          clear hb7 b cx hb
          by_cases hin : p ≤ t ∧ t < p + k
          · rw [show min (t - p) k = t - p by omega]
            have hgg := HG8.out (t - p) (by omega)
            have hgs : getN zs p (min (t + 1 - p) k) = 256 * getN zs p (t - p) + x := by
              rw [show min (t + 1 - p) k = (t - p) + 1 by omega]
              simp [getN, show p + (t - p) = t by omega, HZX.out]
            have HGS := Lib.hid hgs
            have HO := Lib.hid (or8 _ x hgg.1 hgg.2 hxb.1 hxb.2)
            obtain ⟨hg1, hg2⟩ := hgg
            obtain ⟨hx1, hx2⟩ := hxb
            obtain ⟨hp1, hp2⟩ := hin
            clear hgs
            go_wp2_with fail
            go_roundw
            case rel => exact ⟨t + 1, by omega, by go_num, by rw [HGS.out, ← HO.out], b7, hb7'⟩
            case measure => simp [intOf]; omega
          · have hm : min (t + 1 - p) k = min (t - p) k := by omega
            have HM := Lib.hid hm
            clear hm
            obtain ⟨a', y, ha', _, cy, hy⟩ := ((HR.out.below hb7').mono hb7'.size).at_ htx
            injection ha' with ha'
            subst ha'
            have hyx : y = x := by
              have h1 := HZX.out
              rw [HZ.out, setN_at _ _ _ _ hpk, if_neg hin, hy.out] at h1
              injection h1
            subst hyx
            obtain ⟨hx1, hx2⟩ := hxb
            clear hy
            by_cases hpt : p ≤ t
            · have hpt2 : p + k ≤ t := by omega
              clear hin
              go_wp2_with fail
              go_quiet (fail)
              go_wp2_with fail
              go_roundw
              case rel => exact ⟨t + 1, by omega, by go_num, by rw [HM.out], b7, below_drewN hb7' _⟩
              case measure => simp [intOf]; omega
            · clear hin
              go_wp2_with fail
              go_quiet (fail)
              go_wp2_with fail
              go_roundw
              case rel => exact ⟨t + 1, by omega, by go_num, by rw [HM.out], b7, below_drewN hb7' _⟩
              case measure => simp [intOf]; omega
        · rw [show min (t - p) k = k by omega]
          go_wp2_with fail
          refine (set_any (w1.heap.size + 1) xs.length (xs.length + q) (zs ++ List.replicate q 0) p k (getN xs p k) _ b (by omega) (by simp; have := HZL.out; omega) (by omega) (by omega) (getN_u64 hx p (by omega)).1 (getN_u64 hx p (by omega)).2).mono ?_
          rintro e w7 ⟨rfl, b7, hg7⟩
          have hst : setA (zs ++ List.replicate q 0) xs.length p k (getN xs p k) = xs ++ List.replicate q 0 := by
            have h1 := setA_app zs (List.replicate q 0) p k (getN xs p k)
            rw [HZL.out] at h1
            rw [h1]
            congr 1
            unfold setR
            rw [HZL.out, if_pos HE.out, HZ.out]
            simp only [Int.toNat_natCast]
            exact setN_back hx p k a3 hpk
          rw [hst] at b7
          rw [HE.out]
          have hb7 := hb.grown hg7 hb.size (fun j e => by injection e with e; omega)
          clear hg7 hst b hb
          have hR7 := b7.rd (c := xs.length + q) b7.lt xs.length
          rw [u8s_app, List.take_left' (by simp)] at hR7
          have HR7 := Lib.hid hR7
          clear hR7
          go_wp2_with fail
          refine (same_any (some a) (some ⟨w1.heap.size + 1, 0, none⟩) cap0 (xs.length + q) xs xs _ ((HR.out.below hb7).mono hb7.size) HR7.out (by omega) (by omega)).mono ?_
          rintro e w8 ⟨rfl, k8, rfl⟩
          go_wp2_with fail
          go_ret
          exact ⟨by simp, below_drewN hb7 _⟩
end Go.Proofs.Ytjacbbefdmnmaaa
