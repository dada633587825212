/- The reference's functions (barbicanref09), over this seat's program. -/
import Derived.Test.YtjacbbefdmnmaaaKept
namespace Go.Proofs.Ytjacbbefdmnmaaa
open Go.RowKit

/-- A size. -/
def okSz (s : Int) : Bool := s == 1 || s == 2 || s == 4 || s == 8
/-- The error of a place. -/
def errOf (n : Nat) (t s : Int) : Int := if okSz s then (if 0 ≤ t ∧ t + s ≤ n then 0 else 112) else 2

theorem errOf_0 {n : Nat} {t s : Int} (h : okSz s = true) (h1 : 0 ≤ t) (h2 : t + s ≤ n) : errOf n t s = 0 := by simp [errOf, h, h1, h2]
theorem errOf_112 {n : Nat} {t s : Int} (h : okSz s = true) (h1 : ¬ (0 ≤ t ∧ t + s ≤ n)) : errOf n t s = 112 := by simp [errOf, h, h1]
theorem errOf_2 {n : Nat} {t s : Int} (h : okSz s = false) : errOf n t s = 2 := by simp [errOf, h]

theorem place_size (s : Int) (h : okSz s = true) : s = 1 ∨ s = 2 ∨ s = 4 ∨ s = 8 := by
  simpa [okSz, or_assoc] using h
theorem place_no (s : Int) (h : okSz s = false) : s ≠ 1 ∧ s ≠ 2 ∧ s ≠ 4 ∧ s ≠ 8 := by
  simpa [okSz, and_assoc] using h

theorem place_any (A : Option Addr) (n c : Nat) (t s : Int) (w : World) (hn : n ≤ 1000000) (ht : -9223372036854775808 ≤ t) (ht2 : t ≤ 9223372036854775807) :
    Calls Try.prog 26 #[.slice A n c, .int .i64 t, .int .i64 s] w fun e w' => e = .returned (.int .i64 (errOf n t s)) ∧ w = w' := by
  by_cases hs : okSz s = true
  · by_cases h0 : 0 ≤ t
    · have HE : Hid (errOf n t s = if t + s ≤ n then 0 else 112) := by
        by_cases h : t + s ≤ n
        · rw [if_pos h, errOf_0 hs h0 h]; rfl
        · rw [if_neg h, errOf_112 hs (by omega)]; rfl
      have h0' : decide (t < 0) = false := by simpa using h0
      rcases place_size s hs with rfl | rfl | rfl | rfl
      all_goals
        clear hs
        go_enter Try.func26, Try.ntmps26
        go_wp2
        · go_ret
          refine ⟨?_, rfl⟩
          rw [HE.out, if_neg (by omega)]; rfl
        · go_ret
          refine ⟨?_, rfl⟩
          rw [HE.out, if_pos (by omega)]; rfl
    · have HE : Hid (errOf n t s = 112) := errOf_112 hs (by omega)
      have h0' : decide (t < 0) = true := by simpa using h0
      rcases place_size s hs with rfl | rfl | rfl | rfl
      all_goals
        clear hs
        go_enter Try.func26, Try.ntmps26
        go_wp2
        go_ret
        refine ⟨?_, rfl⟩
        rw [HE.out]; rfl
  · have hs' : okSz s = false := by simpa using hs
    obtain ⟨a1, a2, a3, a4⟩ := place_no s hs'
    have HE : Hid (errOf n t s = 2) := errOf_2 hs'
    clear hs hs'
    have b1 : (s != 1) = true := by simpa using a1
    have b2 : (s != 2) = true := by simpa using a2
    have b3 : (s != 4) = true := by simpa using a3
    have b4 : (s != 8) = true := by simpa using a4
    clear a1 a2 a3 a4
    go_enter Try.func26, Try.ntmps26
    go_wp2
    go_ret
    refine ⟨?_, rfl⟩
    rw [HE.out]; rfl

def Bytes (xs : List Int) : Prop := ∀ x ∈ xs, 0 ≤ x ∧ x < 256
theorem Bytes.at_ {xs : List Int} (h : Bytes xs) {k : Nat} {x : Int} (hx : xs[k]? = some x) : 0 ≤ x ∧ x < 256 := h x (List.mem_of_getElem? hx)

/-- The number of the k bytes from p on, the highest first. -/
def getN (xs : List Int) (p : Nat) : Nat → Int
  | 0 => 0
  | k + 1 => 256 * getN xs p k + xs[p + k]?.getD 0
theorem getN_bound {xs : List Int} (h : Bytes xs) (p : Nat) : ∀ k, 0 ≤ getN xs p k ∧ getN xs p k < 256 ^ k
  | 0 => by simp [getN]
  | k + 1 => by
    have ih := getN_bound h p k
    have hb : 0 ≤ xs[p + k]?.getD 0 ∧ xs[p + k]?.getD 0 < 256 := by
      cases e : xs[p + k]? with
      | none => simp
      | some x => simpa using h.at_ e
    simp only [getN]
    rw [Int.pow_succ]
    omega
theorem getN_56 {xs : List Int} (h : Bytes xs) (p : Nat) {k : Nat} (hk : k < 8) : 0 ≤ getN xs p k ∧ getN xs p k < 72057594037927936 := by
  have h1 := getN_bound h p k
  refine ⟨h1.1, Int.lt_of_lt_of_le h1.2 ?_⟩
  have h2 : k = 0 ∨ k = 1 ∨ k = 2 ∨ k = 3 ∨ k = 4 ∨ k = 5 ∨ k = 6 ∨ k = 7 := by omega
  rcases h2 with rfl | rfl | rfl | rfl | rfl | rfl | rfl | rfl <;> decide
/-- What the document tells of the number at a place. -/
def getR (xs : List Int) (t s : Int) : Int := if errOf xs.length t s = 0 then getN xs t.toNat s.toNat else 0

theorem errOf_ne {n : Nat} {t s : Int} (h : errOf n t s ≠ 0) : (errOf n t s != 0) = true := by simpa using h
theorem err_cases (n : Nat) (t s : Int) : (okSz s = true ∧ 0 ≤ t ∧ t + s ≤ n ∧ errOf n t s = 0) ∨ errOf n t s ≠ 0 := by
  unfold errOf
  by_cases h : okSz s = true
  · by_cases h2 : 0 ≤ t ∧ t + s ≤ n
    · left; simp [h, h2]
    · right; simp [h, h2]
  · right; simp [h]

theorem rget_any (A : Option Addr) (c : Nat) (xs : List Int) (t s : Int) (w : World) (ha : Rd w w.heap.size A c (u8s xs)) (hx : Bytes xs) (hn : xs.length ≤ 1000000) (ht : -9223372036854775808 ≤ t) (ht2 : t ≤ 9223372036854775807) :
    Calls Try.prog 18 #[.slice A xs.length c, .int .i64 t, .int .i64 s] w fun e w' => e = .returned (.tuple #[.int .u64 (getR xs t s), .int .i64 (errOf xs.length t s)]) ∧ w = w' := by
  rcases err_cases xs.length t s with ⟨hs, h0, h1, he⟩ | he
  · obtain ⟨p, rfl⟩ := Int.eq_ofNat_of_zero_le h0
    obtain ⟨k, rfl⟩ : ∃ k : Nat, s = k := ⟨s.toNat, by have := place_size s hs; omega⟩
    have hk8 : k ≤ 8 := by have := place_size k hs; omega
    have HG : Hid (getR xs p k = getN xs p k) := Lib.hid (by unfold getR; rw [if_pos he]; simp)
    have he' : (errOf xs.length p k != 0) = false := by simp [he]
    have HE := Lib.hid he
    clear he
    go_enter Try.func18, Try.ntmps18
    go_wp2_with (go_at_call 26; refine (place_any _ _ _ _ _ _ (by omega) (by omega) (by omega)).mono ?_; rintro e w' ⟨rfl, rfl⟩)
    go_loop [9, 10] (fun n i => ∃ j : Nat, j ≤ k ∧ i = .int .i64 j ∧ n = .int .u64 (getN xs p j)) (fun _ i => k - (intOf i).toNat)
    case atStart => exact ⟨0, Nat.zero_le _, rfl, rfl⟩
    case round =>
      obtain ⟨j, hj, rfl, rfl⟩ := hrel
      by_cases hlt : j < k
      · obtain ⟨a, x, rfl, _, ca, hx'⟩ := ha.at_ (k := p + j) (by omega)
        have hb := hx.at_ hx'.out
        have hg := getN_56 hx p (k := j) (by omega)
        have HS : Hid (getN xs p (j + 1) = 256 * getN xs p j + x) := Lib.hid (by simp [getN, hx'.out])
        go_wp2
        go_round
        case rel => exact ⟨j + 1, by omega, by go_num, by rw [HS.out]⟩
        case measure => simp [intOf]; omega
      · obtain rfl : j = k := by omega
        go_wp2
        go_ret2
        exact ⟨by rw [HG.out, HE.out]; rfl, rfl⟩
  · have he' := errOf_ne he
    have HG : Hid (getR xs t s = 0) := Lib.hid (by unfold getR; rw [if_neg he])
    clear he
    go_enter Try.func18, Try.ntmps18
    go_wp2_with (go_at_call 26; refine (place_any _ _ _ _ _ _ (by omega) (by omega) (by omega)).mono ?_; rintro e w' ⟨rfl, rfl⟩)
    go_ret2
    exact ⟨by rw [HG.out]; rfl, rfl⟩
end Go.Proofs.Ytjacbbefdmnmaaa
