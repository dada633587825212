/- The program's Get (package packet): what its rounds come to; its errors; the whole. -/
import Derived.Test.YtjacbbefdmnmaaaGet1
import Derived.Laws.BitsAllLaws
namespace Go.Proofs.Ytjacbbefdmnmaaa
open Go.RowKit Go.Shelf

theorem or_nat (G y m : Nat) (hy : y < 256) : G * 256 ^ (m + 1) ||| y * 256 ^ m = (256 * G + y) * 256 ^ m := by
  have h1 : 256 ^ m = 2 ^ (8 * m) := by rw [Nat.pow_mul]
  have h2 : 2 ^ 8 * G + y = 2 ^ 8 * G ||| y := Nat.two_pow_add_eq_or_of_lt (by omega) G
  rw [Nat.pow_succ, h1, show G * (2 ^ (8 * m) * 256) = (2 ^ 8 * G) * 2 ^ (8 * m) by ac_rfl, ← Nat.shiftLeft_eq, ← Nat.shiftLeft_eq, ← Nat.shiftLeft_or_distrib, ← h2, Nat.shiftLeft_eq]
theorem or_int (G y m : Nat) (hy : y < 256) (hb : (256 * G + y) * 256 ^ m < 18446744073709551616) :
    bits BinOp.or .u64 ((G * 256 ^ (m + 1) : Nat) : Int) (IntKind.u64.wrap (IntKind.u64.wrap (y : Int) * 2 ^ (8 * m))) = (((256 * G + y) * 256 ^ m : Nat) : Int) := by
  have h1 : 256 ^ m = 2 ^ (8 * m) := by rw [Nat.pow_mul]
  have ha : G * 256 ^ (m + 1) < 18446744073709551616 := by
    refine Nat.lt_of_le_of_lt ?_ hb
    rw [Nat.pow_succ, show G * (256 ^ m * 256) = 256 * G * 256 ^ m by ac_rfl]
    exact Nat.mul_le_mul_right _ (by omega)
  have hc : y * 256 ^ m < 18446744073709551616 := Nat.lt_of_le_of_lt (Nat.mul_le_mul_right _ (by omega)) hb
  have hw : IntKind.u64.wrap (IntKind.u64.wrap (y : Int) * 2 ^ (8 * m)) = ((y * 256 ^ m : Nat) : Int) := by
    have e1 : IntKind.u64.wrap (y : Int) = (y : Int) := by rw [IntKind.wrap_u64]; omega
    have e2 : (y : Int) * 2 ^ (8 * m) = ((y * 256 ^ m : Nat) : Int) := by rw [h1]; simp
    rw [e1, e2, IntKind.wrap_u64]
    omega
  rw [hw, u64_or_nat _ _ ha hc, or_nat G y m hy]

theorem orF_upto {xs : List Int} (hx : Bytes xs) (p s : Nat) (hs : s ≤ 8) (h1 : p + s ≤ xs.length) : ∀ k, k ≤ s → orF xs p s (upto s k) = getN xs p k * 256 ^ (s - k)
  | 0, _ => by simp [orF, upto, getN]
  | k + 1, hk => by
    have ih := orF_upto hx p s hs h1 k (by omega)
    have hy : xs[p + k]? = some xs[p + k] := List.getElem?_eq_getElem (by omega)
    have hb := hx.at_ hy
    have hG := getN_bound hx p k
    rw [upto_succ s (by omega), orF_snoc xs p s _ ⟨k, by omega⟩ hy, ih]
    simp only [getN, hy, Option.getD_some]
    obtain ⟨G, hGe⟩ := Int.eq_ofNat_of_zero_le hG.1
    obtain ⟨y, hye⟩ := Int.eq_ofNat_of_zero_le hb.1
    have hy2 : y < 256 := by omega
    have e1 : G < 256 ^ k := by
      have h2 : (G : Int) < ((256 ^ k : Nat) : Int) := by rw [Int.natCast_pow, ← hGe]; exact hG.2
      exact Int.ofNat_lt.1 h2
    rw [hGe, hye]
    obtain ⟨m, hm⟩ : ∃ m, s - k = m + 1 := ⟨s - k - 1, by omega⟩
    have hbd : (256 * G + y) * 256 ^ m < 18446744073709551616 := by
      have e2 : 256 * G + y < 256 ^ (k + 1) := by rw [Nat.pow_succ]; omega
      calc (256 * G + y) * 256 ^ m < 256 ^ (k + 1) * 256 ^ m := Nat.mul_lt_mul_of_pos_right e2 (Nat.pow_pos (by omega))
        _ = 256 ^ s := by rw [← Nat.pow_add]; congr 1; omega
        _ ≤ 256 ^ 8 := Nat.pow_le_pow_right (by omega) hs
    have := or_int G y m hy2 hbd
    unfold orStep
    rw [show (8 * ((s : Int) - 1 - (k : Int))).toNat = 8 * m by omega, hm, show s - (k + 1) = m by omega]
    rw [show ((G : Int) * 256 ^ (m + 1)) = ((G * 256 ^ (m + 1) : Nat) : Int) by simp, this]
    simp
theorem orF_all {xs : List Int} (hx : Bytes xs) (p s : Nat) (hs : s ≤ 8) (h1 : p + s ≤ xs.length) : orF xs p s (List.finRange s) = getN xs p s := by
  rw [← upto_all, orF_upto hx p s hs h1 s (Nat.le_refl _)]
  simp

theorem check_err (A : Option Addr) (n c : Nat) (t s : Int) (w : World) (hn : n ≤ 1000000) (ht : -9223372036854775808 ≤ t) (ht2 : t ≤ 9223372036854775807) (he : errOf n t s ≠ 0) :
    Calls Try.prog 22 #[.slice A n c, .int .i64 t, .int .i64 s] w fun e w' => e = thrown (errOf n t s) ∧ Below w.heap.size w w' := by
  by_cases hs : okSz s = true
  · by_cases hb : 0 ≤ t ∧ t + s ≤ n
    · exact absurd (errOf_0 hs hb.1 hb.2) he
    · rw [errOf_112 hs hb]
      exact check_112 A n c t s w hn ht ht2 hs hb
  · have hs' : okSz s = false := by simpa using hs
    rw [errOf_2 hs']
    exact check_2 A n c t s w hs'

theorem get1_err (g0 g1 g2 g3 : Nat) (A : Option Addr) (c n : Nat) (t s : Int) (w : World)
    (b0 : Bk w g0 22 [.slice A n c]) (b1 : Bk w g1 2 [.int .i64 t]) (b2 : Bk w g2 3 [.int .i64 s]) (hn : n ≤ 1000000) (ht : -9223372036854775808 ≤ t) (ht2 : t ≤ 9223372036854775807) (he : errOf n t s ≠ 0) :
    Calls Try.prog 24 #[.pointer (some ⟨g0, 0, none⟩), .pointer (some ⟨g1, 0, none⟩), .pointer (some ⟨g2, 0, none⟩), .pointer (some ⟨g3, 0, none⟩)] w fun e w' =>
      e = thrown (errOf n t s) ∧ Below w.heap.size w w' := by
  have c0 : w.cell? ⟨g0, 0, none⟩ = some (.slice A n c) := by rw [b0.cell]; rfl
  have c1 : w.cell? ⟨g1, 0, none⟩ = some (.int .i64 t) := by rw [b1.cell]; rfl
  have c2 : w.cell? ⟨g2, 0, none⟩ = some (.int .i64 s) := by rw [b2.cell]; rfl
  have HE := Lib.hid he
  clear he b0 b1 b2
  go_enter Try.func24, Try.ntmps24
  go_wp2_with fail
  refine (check_err A n c t s _ hn ht ht2 HE.out).mono ?_
  rintro e w1 ⟨rfl, hb⟩
  exact ⟨rfl, rfl, hb⟩

/-- What grew but for block g, g new, is as it was below. -/
theorem below_gr {a b c : World} {B g : Nat} (h : Below B a b) (k : b.grownBy c (some g)) (hg : B ≤ g) (hB : B ≤ b.heap.size) : Below B a c :=
  h.grown k hB (fun j e => by injection e with e; omega)

theorem get_caught (g0 g1 g2 g3 : Nat) (A : Option Addr) (c : Nat) (xs : List Int) (t s : Int) (B : Nat) (w W : World) (hB : Below B w W) (hBw : B ≤ W.heap.size)
    (b0 : Bk W g0 22 [.slice A xs.length c]) (b1 : Bk W g1 2 [.int .i64 t]) (b2 : Bk W g2 3 [.int .i64 s]) (b3 : Bk W g3 27 [.int .u64 0]) (hg : B ≤ g3) (n1 : g0 ≠ g3)
    (ha : Rd w B A c (u8s xs)) (hx : Bytes xs) (hn : xs.length ≤ 1000000) (ht : -9223372036854775808 ≤ t) (ht2 : t ≤ 9223372036854775807) :
    Calls Try.prog 20 #[.func (.func 24) #[] #[.pointer (some ⟨g0, 0, none⟩), .pointer (some ⟨g1, 0, none⟩), .pointer (some ⟨g2, 0, none⟩), .pointer (some ⟨g3, 0, none⟩)]] W fun e w' =>
      e = .returned (.int .i64 (errOf xs.length t s)) ∧ Bk w' g3 27 [.int .u64 (getR xs t s)] ∧ Below B w w' := by
  have hent := enters_of Try.func24 (by kernel_rfl) rfl
  rcases err_cases xs.length t s with ⟨hs, h0, h1, he⟩ | he
  · obtain ⟨p, rfl⟩ := Int.eq_ofNat_of_zero_le h0
    obtain ⟨k, rfl⟩ : ∃ k : Nat, s = k := ⟨s.toNat, by have := place_size s hs; omega⟩
    have hk8 : k ≤ 8 := by have := place_size k hs; omega
    have hG : getR xs p k = getN xs p k := by unfold getR; rw [if_pos he]; simp
    have hR : Rd (W.alloc (.cells #[.int .i64 0] 32)) B A c (u8s xs) := ha.below (hB.alloc hBw _)
    refine (caught_ret 24 _ W (fun w' => Bk w' g3 27 [.int .u64 (getN xs p k)] ∧ Below B w w') hent ?_).mono ?_
    · refine (get1_0 g0 g1 g2 g3 A c xs p k B _ (b0.alloc _) (b1.alloc _) (b2.alloc _) (b3.alloc _) hR hg n1 hx hn hs (by omega)).mono ?_
      rintro e w' ⟨rfl, hb3, hgr⟩
      rw [orF_all hx p k hk8 (by omega)] at hb3
      exact ⟨rfl, ⟨hb3, below_gr (hB.alloc hBw _) hgr hg (by simp; omega)⟩, (Bk.new W 32 [.int .i64 0]).grown hgr (fun e => by injection e with e; have := b3.lt; omega)⟩
    · rintro e w' ⟨rfl, w1, ⟨hb3, hbl⟩, rfl⟩
      rw [he, hG]
      have := b3.lt
      exact ⟨rfl, hb3.far (by simp; omega) _, hbl.setCell (by simp; omega) _⟩
  · have hG : getR xs t s = 0 := by unfold getR; rw [if_neg he]
    refine (caught_throw 24 _ (errOf xs.length t s) W (fun w' => Below W.heap.size W w') hent ?_).mono ?_
    · refine (get1_err g0 g1 g2 g3 A c xs.length t s _ (b0.alloc _) (b1.alloc _) (b2.alloc _) hn ht ht2 he).mono ?_
      rintro e w' ⟨rfl, hb⟩
      exact ⟨rfl, ((Below.refl _ _).alloc (Nat.le_refl _) _).trans (hb.mono (by simp)), (Bk.new W 32 [.int .i64 0]).below hb (by simp)⟩
    · rintro e w' ⟨rfl, w1, hbl, rfl⟩
      rw [hG]
      have := b3.lt
      exact ⟨rfl, (b3.below hbl b3.lt).far (by simp; omega) _, (hB.trans (hbl.mono hBw)).setCell (by simp; omega) _⟩

set_option maxHeartbeats 400000 in
theorem get_any (A : Option Addr) (c : Nat) (xs : List Int) (t s : Int) (w : World) (ha : Rd w w.heap.size A c (u8s xs)) (hx : Bytes xs) (hn : xs.length ≤ 1000000) (ht : -9223372036854775808 ≤ t) (ht2 : t ≤ 9223372036854775807) :
    Calls Try.prog 15 #[.slice A xs.length c, .int .i64 t, .int .i64 s] w fun e w' => e = .returned (.tuple #[.int .u64 (getR xs t s), .int .i64 (errOf xs.length t s)]) ∧ Below w.heap.size w w' := by
  have hmf : ∀ (fn : Fn) (first cap : Array Value) (w : World), (Instr.makeFunc fn first cap).run Try.prog w = .ok (.func fn first cap) w := fun _ _ _ _ => rfl
  have HR := Lib.hid ha
  clear ha
  go_enter Try.func15, Try.ntmps15
  go_wp2_with fail
  have b0 := Bk.new w 22 [.slice A xs.length c]
  have b1 := Bk.new (w.alloc (.cells #[.slice A xs.length c] 22)) 2 [.int .i64 t]
  have b2 := Bk.new ((w.alloc (.cells #[.slice A xs.length c] 22)).alloc (.cells #[.int .i64 t] 2)) 3 [.int .i64 s]
  have b3 := Bk.new (((w.alloc (.cells #[.slice A xs.length c] 22)).alloc (.cells #[.int .i64 t] 2)).alloc (.cells #[.int .i64 s] 3)) 27 [.int .u64 0]
  simp only [World.size_alloc] at b0 b1 b2 b3
  refine (get_caught w.heap.size (w.heap.size + 1) (w.heap.size + 1 + 1) (w.heap.size + 1 + 1 + 1) A c xs t s w.heap.size w _ ((((((Below.refl _ _).alloc (Nat.le_refl _) _).alloc (by simp) _).alloc (by simp; omega) _).alloc (by simp; omega) _)) (by simp; omega)
    (((b0.alloc _).alloc _).alloc _) ((b1.alloc _).alloc _) (b2.alloc _) b3 (by omega) (by omega) HR.out hx hn ht ht2).mono ?_
  rintro e w1 ⟨rfl, hb3, hbl⟩
  have c3 : w1.cell? ⟨w.heap.size + 1 + 1 + 1, 0, none⟩ = some (.int .u64 (getR xs t s)) := by rw [hb3.cell]; rfl
  clear b0 b1 b2 b3 hb3
  go_wp2
  go_ret2
  exact ⟨rfl, hbl⟩
end Go.Proofs.Ytjacbbefdmnmaaa
