/- Numbers gathered bit by bit: plain facts, no program. -/
import Derived.Laws.BitsAllLaws
import Derived.Laws.BitsLemmas
namespace Go.Proofs.Ytlfgddljmcgggaa
set_option linter.unusedVariables false

/-- The number whose bits below n are f's. -/
def gather (f : Nat → Bool) : Nat → Nat
  | 0 => 0
  | n + 1 => if f n then gather f n ||| 2 ^ n else gather f n
theorem gather_bit (f : Nat → Bool) : ∀ (n j : Nat), (gather f n).testBit j = (decide (j < n) && f j)
  | 0, j => by simp [gather]
  | n + 1, j => by
    have ih := gather_bit f n j
    by_cases hf : f n = true
    · simp only [gather, hf, if_true, Nat.testBit_or, ih, Nat.testBit_two_pow]
      by_cases h : n = j
      · subst h; simp [hf]
      · have e : (decide (j < n + 1)) = decide (j < n) := by
          by_cases h2 : j < n
          · simp [h2]; omega
          · simp [h2]; omega
        simp [h, e]
    · simp only [gather, hf]
      rw [if_neg (by simp), ih]
      by_cases h : n = j
      · subst h; simp [hf]
      · have e : (decide (j < n + 1)) = decide (j < n) := by
          by_cases h2 : j < n
          · simp [h2]; omega
          · simp [h2]; omega
        rw [e]
theorem gather_lt (f : Nat → Bool) : ∀ n, gather f n < 2 ^ n
  | 0 => by simp [gather]
  | n + 1 => by
    have ih := gather_lt f n
    have h2 : 2 ^ n < 2 ^ (n + 1) := Nat.pow_lt_pow_right (by omega) (by omega)
    simp only [gather]
    split
    · exact Nat.or_lt_two_pow (by omega) h2
    · omega
/-- A number below 2^n is what its bits gather. -/
theorem gather_of (f : Nat → Bool) (n x : Nat) (hx : x < 2 ^ n) (h : ∀ j, j < n → x.testBit j = f j) : gather f n = x := by
  apply Nat.eq_of_testBit_eq
  intro j
  rw [gather_bit]
  by_cases hj : j < n
  · simp [hj, h j hj]
  · simp [hj]
    exact Nat.testBit_lt_two_pow (Nat.lt_of_lt_of_le hx (Nat.pow_le_pow_right (by omega) (by omega : n ≤ j)))

theorem gather_and (a b : Nat) (ha : a < 2 ^ 64) : gather (fun j => a.testBit j && b.testBit j) 64 = a &&& b :=
  gather_of _ _ _ (Nat.lt_of_le_of_lt Nat.and_le_left ha) (fun j _ => by rw [Nat.testBit_and])
theorem gather_or (a b : Nat) (ha : a < 2 ^ 64) (hb : b < 2 ^ 64) : gather (fun j => a.testBit j || b.testBit j) 64 = a ||| b :=
  gather_of _ _ _ (Nat.or_lt_two_pow ha hb) (fun j _ => by rw [Nat.testBit_or])
theorem gather_xor (a b : Nat) (ha : a < 2 ^ 64) (hb : b < 2 ^ 64) : gather (fun j => a.testBit j != b.testBit j) 64 = a ^^^ b :=
  gather_of _ _ _ (Nat.xor_lt_two_pow ha hb) (fun j _ => by rw [Nat.testBit_xor])

/-- A bit of a number that is moved: by bits up (below nought: down), others coming in. -/
def movedBit (a : Nat) (by' : Int) (size : Nat) (inn : Bool) (k : Nat) : Bool :=
  if 0 ≤ (k : Int) - by' ∧ (k : Int) - by' < size then a.testBit ((k : Int) - by').toNat else inn
def movedN (a : Nat) (by' : Int) (size : Nat) (inn : Bool) (n : Nat) : Nat := gather (movedBit a by' size inn) n

theorem moved_up (a s size : Nat) (hs : s < size) : movedN a s size false size = a * 2 ^ s % 2 ^ size := by
  apply gather_of
  · exact Nat.mod_lt _ (Nat.pow_pos (by omega))
  · intro j hj
    rw [Nat.testBit_mod_two_pow, Nat.mul_comm, Nat.testBit_two_pow_mul]
    unfold movedBit
    by_cases h : s ≤ j
    · rw [if_pos (by omega)]
      simp [hj, h, show ((j : Int) - (s : Int)).toNat = j - s by omega]
    · rw [if_neg (by omega)]
      simp [h]
theorem moved_down (a s size : Nat) (ha : a < 2 ^ size) (hs : s < size) : movedN a (-(s : Int)) size false size = a / 2 ^ s := by
  apply gather_of
  · exact Nat.lt_of_le_of_lt (Nat.div_le_self _ _) ha
  · intro j hj
    rw [Nat.testBit_div_two_pow]
    unfold movedBit
    by_cases h : j + s < size
    · rw [if_pos (by omega), show ((j : Int) - -(s : Int)).toNat = j + s by omega, Nat.add_comm]
    · rw [if_neg (by omega)]
      exact Nat.testBit_lt_two_pow (Nat.lt_of_lt_of_le ha (Nat.pow_le_pow_right (by omega) (by omega)))
theorem moved_sign (a s size : Nat) (ha : a < 2 ^ size) (hs : s < size) : movedN a (-(s : Int)) size true size = 2 ^ (size - s) * (2 ^ s - 1) + a / 2 ^ s := by
  have hq : a / 2 ^ s < 2 ^ (size - s) := by
    rw [Nat.div_lt_iff_lt_mul (Nat.pow_pos (by omega)), ← Nat.pow_add, show size - s + s = size by omega]
    exact ha
  apply gather_of
  · have h1 : 2 ^ (size - s) * (2 ^ s - 1) + 2 ^ (size - s) = 2 ^ size := by
      rw [Nat.mul_sub, ← Nat.pow_add, show size - s + s = size by omega, Nat.mul_one]
      have : 2 ^ (size - s) ≤ 2 ^ size := Nat.pow_le_pow_right (by omega) (by omega)
      omega
    omega
  · intro j hj
    rw [Nat.testBit_two_pow_mul_add _ hq]
    unfold movedBit
    by_cases h : j + s < size
    · rw [if_pos (by omega), if_pos (by omega), show ((j : Int) - -(s : Int)).toNat = j + s by omega, Nat.testBit_div_two_pow, Nat.add_comm]
    · rw [if_neg (by omega), if_neg (by omega), Nat.testBit_two_pow_sub_one]
      simp
      omega
end Go.Proofs.Ytlfgddljmcgggaa
