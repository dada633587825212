/- What the reference reckons is what the program reckons: plain facts, no walk. -/
import Derived.Test.YtlfgddljmcgggaaRefB
namespace Go.Proofs.Ytlfgddljmcgggaa
open Go.RowKit
set_option linter.unusedVariables false

theorem low_eq (x : Int) (h0 : 0 ≤ x) (h1 : x < 18446744073709551616) : bits BinOp.and .u64 x 4294967295 = x % 4294967296 := by
  obtain ⟨n, rfl⟩ := Int.eq_ofNat_of_zero_le h0
  rw [show (4294967295 : Int) = ((2 ^ 32 - 1 : Nat) : Int) by decide, u64_and_nat _ _ (by omega) (by decide), Nat.and_two_pow_sub_one_eq_mod]
  simp
theorem w64 (x : Int) : IntKind.u64.wrap x = x % 18446744073709551616 := IntKind.wrap_u64 x
theorem w32 (x : Int) : IntKind.u32.wrap x = x % 4294967296 := IntKind.wrap_u32 x
theorem low_wrap (x : Int) : bits BinOp.and .u64 (IntKind.u64.wrap x) 4294967295 = IntKind.u32.wrap x := by
  have h := w64 x
  rw [low_eq _ (by rw [h]; omega) (by rw [h]; omega), h, w32]
  omega
theorem low_nat (x : Nat) (h : x < 4294967296) : bits BinOp.and .u64 (x : Int) 4294967295 = (x : Int) := by
  rw [low_eq _ (by omega) (by omega)]; omega

theorem div_nat (a b : Nat) : ((a : Int) / (b : Int)) = ((a / b : Nat) : Int) := by simp
theorem mod_nat (a b : Nat) : ((a : Int) % (b : Int)) = ((a % b : Nat) : Int) := by simp
theorem div_w (a b : Nat) (ha : a < 18446744073709551616) : IntKind.u64.wrap ((a : Int) / b) = (a : Int) / b := by
  have := Nat.div_le_self a b
  rw [w64, div_nat]; generalize a / b = q at *; omega
theorem mod_w (a b : Nat) (ha : a < 18446744073709551616) : IntKind.u64.wrap ((a : Int) - IntKind.u64.wrap (IntKind.u64.wrap ((a : Int) / b) * b)) = (a : Int) % b := by
  have h1 := Nat.div_add_mod a b
  have h2 : a / b * b ≤ a := Nat.div_mul_le_self a b
  have h3 : (a : Int) / b * b = ((a / b * b : Nat) : Int) := by simp
  rw [div_w a b ha, h3, w64, w64, mod_nat]
  have h4 : a / b * b + a % b = a := by rw [Nat.mul_comm]; exact h1
  omega

theorem each_and (a b : Nat) (ha : a < 18446744073709551616) (hb : b < 18446744073709551616) : ((gather (fun j => eachBit 6 (a.testBit j) (b.testBit j)) 64 : Nat) : Int) = ((a &&& b : Nat) : Int) := by
  congr 1; exact gather_and a b ha
theorem each_or (a b : Nat) (ha : a < 18446744073709551616) (hb : b < 18446744073709551616) : ((gather (fun j => eachBit 7 (a.testBit j) (b.testBit j)) 64 : Nat) : Int) = ((a ||| b : Nat) : Int) := by
  congr 1; exact gather_or a b ha hb
theorem each_xor (a b : Nat) (ha : a < 18446744073709551616) (hb : b < 18446744073709551616) : ((gather (fun j => eachBit 8 (a.testBit j) (b.testBit j)) 64 : Nat) : Int) = ((a ^^^ b : Nat) : Int) := by
  congr 1; exact gather_xor a b ha hb

theorem mod_casts (b m : Nat) : ((b : Int) % (m : Int)) = ((b % m : Nat) : Int) := by simp
theorem up_w (a b : Nat) : ((movedN a ((b : Int) % 64) 64 false 64 : Nat) : Int) = IntKind.u64.wrap (a * 2 ^ ((b : Int) % 64).toNat) := by
  have e : (b : Int) % 64 = ((b % 64 : Nat) : Int) := mod_casts b 64
  rw [e, moved_up a (b % 64) 64 (Nat.mod_lt _ (by omega)), w64, Int.toNat_natCast]
  generalize b % 64 = s
  simp
theorem up_n (a b : Nat) : ((movedN a ((b : Int) % 32) 32 false 32 : Nat) : Int) = IntKind.u32.wrap (a * 2 ^ ((b : Int) % 32).toNat) := by
  have e : (b : Int) % 32 = ((b % 32 : Nat) : Int) := mod_casts b 32
  rw [e, moved_up a (b % 32) 32 (Nat.mod_lt _ (by omega)), w32, Int.toNat_natCast]
  generalize b % 32 = s
  simp
theorem down_w (a b : Nat) (ha : a < 18446744073709551616) : ((movedN a (-((b : Int) % 64)) 64 false 64 : Nat) : Int) = (a : Int) / 2 ^ ((b : Int) % 64).toNat := by
  have e : (b : Int) % 64 = ((b % 64 : Nat) : Int) := mod_casts b 64
  rw [e, moved_down a (b % 64) 64 ha (Nat.mod_lt _ (by omega)), Int.toNat_natCast]
  generalize b % 64 = s
  simp
theorem down_n (a b : Nat) (ha : a < 4294967296) : ((movedN a (-((b : Int) % 32)) 32 false 32 : Nat) : Int) = (a : Int) / 2 ^ ((b : Int) % 32).toNat := by
  have e : (b : Int) % 32 = ((b % 32 : Nat) : Int) := mod_casts b 32
  rw [e, moved_down a (b % 32) 32 ha (Nat.mod_lt _ (by omega)), Int.toNat_natCast]
  generalize b % 32 = s
  simp
theorem moved_lt (a : Nat) (d : Int) (size : Nat) (inn : Bool) : movedN a d size inn size < 2 ^ size := gather_lt _ _

/-- Down with the sign. -/
theorem sar_nat (a s n : Nat) (ha : a < 2 ^ n) (hs : s < n) (M : Int) (hM : M = 2 ^ n) (x : Int) (hx : x = if a.testBit (n - 1) then (a : Int) - M else a) :
    ((movedN a (-(s : Int)) n (a.testBit (n - 1)) n : Nat) : Int) = (x / 2 ^ s) % M := by
  have hp : (0 : Int) < 2 ^ s := Int.pow_pos (by omega)
  have hMp : (0 : Int) < M := by rw [hM]; exact Int.pow_pos (by omega)
  cases ht : a.testBit (n - 1) with
  | false =>
    rw [ht] at hx
    simp at hx
    rw [moved_down a s n ha hs, hx]
    have h1 : ((a : Int) / 2 ^ s) = ((a / 2 ^ s : Nat) : Int) := by simp
    rw [h1]
    have h2 : ((a / 2 ^ s : Nat) : Int) < M := by
      rw [hM]
      have : a / 2 ^ s < 2 ^ n := Nat.lt_of_le_of_lt (Nat.div_le_self _ _) ha
      have h3 : ((a / 2 ^ s : Nat) : Int) < ((2 ^ n : Nat) : Int) := Int.ofNat_lt.2 this
      simpa using h3
    rw [Int.emod_eq_of_lt (Int.natCast_nonneg _) h2]
  | true =>
    rw [ht] at hx
    simp at hx
    rw [moved_sign a s n ha hs]
    have e1 : M = 2 ^ (n - s) * 2 ^ s := by rw [hM, ← Int.pow_add]; congr 1; omega
    have e2 : x / 2 ^ s = (a : Int) / 2 ^ s - 2 ^ (n - s) := by
      rw [hx, e1, show (a : Int) - 2 ^ (n - s) * 2 ^ s = a + (-(2 ^ (n - s))) * 2 ^ s by rw [Int.neg_mul, Int.sub_eq_add_neg], Int.add_mul_ediv_right _ _ (by omega)]
      omega
    have hq : a / 2 ^ s < 2 ^ (n - s) := by
      rw [Nat.div_lt_iff_lt_mul (Nat.pow_pos (by omega)), ← Nat.pow_add, show n - s + s = n by omega]; exact ha
    have h1 : 2 ^ (n - s) * (2 ^ s - 1) + 2 ^ (n - s) = 2 ^ n := by
      rw [Nat.mul_sub, ← Nat.pow_add, show n - s + s = n by omega, Nat.mul_one]
      have : 2 ^ (n - s) ≤ 2 ^ n := Nat.pow_le_pow_right (by omega) (by omega)
      omega
    have hM' : M = ((2 ^ n : Nat) : Int) := by rw [hM]; simp
    have e3 : ((a : Int) / 2 ^ s) = ((a / 2 ^ s : Nat) : Int) := by simp
    have e4 : ((2 : Int) ^ (n - s)) = ((2 ^ (n - s) : Nat) : Int) := by simp
    rw [e2, e3, e4, hM']
    generalize a / 2 ^ s = q at *
    generalize 2 ^ (n - s) * (2 ^ s - 1) = r at *
    generalize 2 ^ (n - s) = t at *
    generalize 2 ^ n = m at *
    have e5 : ((q : Int) - t) % m = (q : Int) - t + m := by
      rw [← Int.add_emod_right]
      exact Int.emod_eq_of_lt (by omega) (by omega)
    rw [e5]
    omega
theorem top_bit (a n : Nat) (ha : a < 2 ^ (n + 1)) : a.testBit n = decide (2 ^ n ≤ a) := by
  rw [Nat.testBit_eq_decide_div_mod_eq]
  congr 1
  have hp : 0 < 2 ^ n := Nat.pow_pos (by omega)
  rw [Nat.pow_succ] at ha
  have h1 : a / 2 ^ n < 2 := by rw [Nat.div_lt_iff_lt_mul hp]; omega
  rw [Nat.mod_eq_of_lt h1]
  by_cases h : 2 ^ n ≤ a
  · have : 1 ≤ a / 2 ^ n := by rw [Nat.le_div_iff_mul_le hp]; omega
    simp [h]; omega
  · have : a / 2 ^ n = 0 := Nat.div_eq_of_lt (by omega)
    simp [h, this]
theorem sar_w (a b : Nat) (ha : a < 18446744073709551616) : ((movedN a (-((b : Int) % 64)) 64 (a.testBit 63) 64 : Nat) : Int) = IntKind.u64.wrap (IntKind.i64.wrap a / 2 ^ ((b : Int) % 64).toNat) := by
  have e : (b : Int) % 64 = ((b % 64 : Nat) : Int) := mod_casts b 64
  have ht := top_bit a 63 ha
  rw [e, w64, sar_nat a (b % 64) 64 ha (Nat.mod_lt _ (by omega)) 18446744073709551616 (by decide) (IntKind.i64.wrap a) ?_, Int.toNat_natCast]
  · rw [ht, IntKind.wrap_i64]
    by_cases h : 2 ^ 63 ≤ a
    · simp [h]; omega
    · simp [h]; omega
theorem sar_n (a b : Nat) (ha : a < 4294967296) : ((movedN a (-((b : Int) % 32)) 32 (a.testBit 31) 32 : Nat) : Int) = IntKind.u32.wrap (IntKind.i32.wrap a / 2 ^ ((b : Int) % 32).toNat) := by
  have e : (b : Int) % 32 = ((b % 32 : Nat) : Int) := mod_casts b 32
  have ht := top_bit a 31 ha
  rw [e, w32, sar_nat a (b % 32) 32 ha (Nat.mod_lt _ (by omega)) 4294967296 (by decide) (IntKind.i32.wrap a) ?_, Int.toNat_natCast]
  · rw [ht, IntKind.wrap_i32]
    by_cases h : 2 ^ 31 ≤ a
    · simp [h]; omega
    · simp [h]; omega
end Go.Proofs.Ytlfgddljmcgggaa
