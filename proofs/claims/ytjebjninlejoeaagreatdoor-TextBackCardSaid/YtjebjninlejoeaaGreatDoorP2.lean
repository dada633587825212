/- text, the plain law: numbers. -/
import Derived.Test.YtjebjninlejoeaaGreatDoorP1
import Derived.Lib.AtoiAllCases
import Derived.Lib.ItoaLen
namespace Go.Proofs.YtjebjninlejoeaaGreatDoor
open Go.Lib
set_option linter.unusedVariables false
set_option linter.unusedSimpArgs false

theorem digC_iff (c : UInt8) : digitC c = true ↔ 48 ≤ c.toNat ∧ c.toNat ≤ 57 := by
  simp [digitC, UInt8.le_iff_toNat_le]
theorem dg_dig (n : Nat) (h : n < 10) : digitC (UInt8.ofNat (48 + n)) = true := by
  rw [digC_iff]; simp; omega
theorem dec_big {u : Nat} (h : ¬ u < 10) : decDigits u = decDigits (u / 10) ++ [UInt8.ofNat (48 + u % 10)] := by rw [decDigits, dif_neg h]
theorem dec_dig (u : Nat) : ∀ b ∈ decDigits u, digitC b = true := by
  induction u using Nat.strongRecOn with
  | _ u ih =>
    intro b hb
    by_cases h : u < 10
    · rw [decDigits_one h] at hb
      simp only [List.mem_cons, List.not_mem_nil, or_false] at hb
      rw [hb]; exact dg_dig u h
    · rw [dec_big h] at hb
      rcases List.mem_append.1 hb with h1 | h1
      · exact ih (u / 10) (by omega) b h1
      · simp only [List.mem_cons, List.not_mem_nil, or_false] at h1
        rw [h1]; exact dg_dig _ (by omega)
theorem dec_ne (u : Nat) : decDigits u ≠ [] := by
  rw [decDigits]; split <;> simp
theorem numV_app (s : Nm) (c : UInt8) : numV (s ++ [c]) = 10 * numV s + (c.toNat - 48) := by simp [numV]
theorem ofNat_sub {n : Nat} (h : n < 10) : (UInt8.ofNat (48 + n)).toNat - 48 = n := by simp; omega
theorem numV_dec (u : Nat) : numV (decDigits u) = u := by
  induction u using Nat.strongRecOn with
  | _ u ih =>
    by_cases h : u < 10
    · rw [decDigits_one h]
      have := ofNat_sub h
      simp [numV] at *
      omega
    · rw [dec_big h, numV_app, ih (u / 10) (by omega), ofNat_sub (by omega)]
      omega
theorem head_app {s t : Nm} (h : s ≠ []) : (s ++ t).head? = s.head? := by cases s with | nil => exact absurd rfl h | cons a l => rfl
theorem dec_head {u : Nat} (h : 1 ≤ u) : (decDigits u).head? ≠ some 48 := by
  induction u using Nat.strongRecOn with
  | _ u ih =>
    by_cases h1 : u < 10
    · rw [decDigits_one h1]
      intro e
      simp at e
      have := congrArg UInt8.toNat e
      simp at this
      omega
    · rw [dec_big h1, head_app (dec_ne _)]
      exact ih (u / 10) (by omega) (by omega)
theorem dec_len (u : Nat) : 1 ≤ (decDigits u).length := List.length_pos_iff.2 (dec_ne u)
theorem dec_len10 {u : Nat} : (decDigits u).length ≤ 10 ↔ u < 10000000000 := by
  rw [decDigits_length]
  constructor
  · intro h
    have h1 := lt_pow_nDigits u
    exact Nat.lt_of_lt_of_le h1 (Nat.pow_le_pow_right (by decide) h : 10 ^ nDigits u ≤ 10 ^ 10)
  · intro h
    by_cases h2 : nDigits u ≤ 10
    · exact h2
    · exfalso
      have aux : ∀ v : Nat, ∀ k, k + 1 ≤ nDigits v → 1 ≤ k → 10 ^ k ≤ v := by
        intro v
        induction v using Nat.strongRecOn with
        | _ v ih =>
          intro k hk h1
          by_cases hv : v < 10
          · rw [nDigits_small hv] at hk; omega
          · rw [nDigits_big hv] at hk
            by_cases hk1 : k = 1
            · subst hk1; omega
            · have := ih (v / 10) (by omega) (k - 1) (by omega) (by omega)
              have e : 10 ^ k = 10 ^ (k - 1) * 10 := by rw [← Nat.pow_succ]; congr 1; omega
              omega
      have := aux u 10 (by omega) (by decide)
      omega
theorem dec_of_num : ∀ (n : Nat) (s : Nm), s.length = n → s.all digitC = true → 1 ≤ s.length → (s.length = 1 ∨ s.head? ≠ some 48) → decDigits (numV s) = s
  | 0, s, hn, _, h1, _ => by omega
  | n + 1, s, hn, ha, h1, h2 => by
    have hs : s ≠ [] := by intro e; subst e; simp at h1
    obtain ⟨t, c, rfl⟩ : ∃ t c, s = t ++ [c] := ⟨s.dropLast, s.getLast hs, (List.dropLast_concat_getLast hs).symm⟩
    rw [List.all_append, Bool.and_eq_true] at ha
    obtain ⟨a1, a2⟩ := ha
    simp at a2
    have hc := (digC_iff c).1 a2
    rw [numV_app]
    by_cases ht : t = []
    · subst ht
      have e : 10 * numV [] + (c.toNat - 48) = c.toNat - 48 := by simp [numV]
      rw [e, decDigits_one (by omega)]
      simp
      apply UInt8.toNat.inj
      simp
      omega
    · have hlt : 1 ≤ t.length := List.length_pos_iff.2 ht
      have hh : t.head? ≠ some 48 := by
        rw [head_app ht] at h2
        rcases h2 with h2 | h2
        · simp at h2; exact absurd h2 ht
        · exact h2
      have ih := dec_of_num n t (by simp at hn; omega) a1 hlt (.inr hh)
      have hp : 1 ≤ numV t := by
        by_cases h0 : numV t = 0
        · rw [h0, decDigits_one (by decide)] at ih
          rw [← ih] at hh
          simp at hh
        · omega
      rw [dec_big (by omega), show (10 * numV t + (c.toNat - 48)) / 10 = numV t by omega, show (10 * numV t + (c.toNat - 48)) % 10 = c.toNat - 48 by omega, ih]
      congr 2
      apply UInt8.toNat.inj
      simp
      omega
theorem numP_dec {u : Nat} (h : u < 10000000000) : numP (decDigits u) = some (u : Int) := by
  unfold numP
  have h1 : (decDigits u).all digitC = true := List.all_eq_true.2 (dec_dig u)
  have h2 := dec_len u
  have h3 := dec_len10.2 h
  have h4 : (decDigits u).length = 1 ∨ (decDigits u).head? ≠ some 48 := by
    by_cases hu : u = 0
    · left; rw [hu, decDigits_one (by decide)]; rfl
    · right; exact dec_head (by omega)
  rw [if_pos (by simp [h1, h2, h3, h4]), numV_dec]
theorem numP_some {s : Nm} {n : Int} (h : numP s = some n) : ∃ u : Nat, n = u ∧ s = decDigits u ∧ u < 10000000000 := by
  unfold numP at h
  split at h
  · next hc =>
    simp only [Bool.and_eq_true, Bool.or_eq_true, decide_eq_true_eq] at hc
    obtain ⟨⟨⟨h1, h2⟩, h3⟩, h4⟩ := hc
    injection h with h
    have := dec_of_num s.length s rfl h1 h2 h4
    exact ⟨numV s, h.symm, this.symm, dec_len10.1 (by rw [this]; exact h3)⟩
  · cases h
theorem parse_app : ∀ (l : List UInt8) (c : UInt8) (acc m : Nat), parseUint10 acc l = .ok m → digitC c = true → m < 100000000000 → parseUint10 acc (l ++ [c]) = .ok (m * 10 + (c.toNat - 48))
  | [], c, acc, m, h, hc, hm => by
    simp only [parseUint10] at h
    injection h with h
    subst h
    have := (digC_iff c).1 hc
    simp only [List.nil_append, parseUint10]
    rw [if_pos this, if_neg (by omega), if_neg (by omega)]
  | d :: l, c, acc, m, h, hc, hm => by
    simp only [List.cons_append, parseUint10] at h ⊢
    split at h
    · next h1 =>
      rw [if_pos h1]
      split at h
      · cases h
      · next h2 =>
        rw [if_neg h2]
        split at h
        · cases h
        · next h3 => rw [if_neg h3]; exact parse_app l c _ m h hc hm
    · cases h
theorem parse_dec (u : Nat) (h : u < 10000000000) : parseUint10 0 (decDigits u) = .ok u := by
  induction u using Nat.strongRecOn with
  | _ u ih =>
    by_cases h1 : u < 10
    · rw [decDigits_one h1]
      have := parse_app [] (UInt8.ofNat (48 + u)) 0 0 rfl (dg_dig u h1) (by decide)
      rw [ofNat_sub h1] at this
      simpa using this
    · rw [dec_big h1, parse_app _ _ _ _ (ih (u / 10) (by omega) (by omega)) (dg_dig _ (by omega)) (by omega), ofNat_sub (by omega)]
      congr 1
      omega
/-- What the program's number asks, of a token that does not begin with a sign. -/
theorem num_iff {s : Nm} (hs : s.head? ≠ some 43) (hs2 : s.head? ≠ some 45) (n : Int) : numP s = some n ↔ atoiAll s = .ok n ∧ s.length ≤ 10 ∧ itoa n = s := by
  constructor
  · intro h
    obtain ⟨u, rfl, rfl, hu⟩ := numP_some h
    refine ⟨?_, dec_len10.2 hu, itoa_nonneg u⟩
    cases hd : decDigits u with
    | nil => exact absurd hd (dec_ne u)
    | cons c r =>
      rw [hd] at hs hs2
      simp at hs hs2
      have e1 : c.toNat ≠ 43 := fun e => hs (UInt8.toNat.inj e)
      have e2 : c.toNat ≠ 45 := fun e => hs2 (UInt8.toNat.inj e)
      rw [atoiAll_plain c r e1 e2, ← hd]
      have : parseMag (decDigits u) = .ok u := by unfold parseMag; rw [if_neg (dec_ne u), parse_dec u hu]
      rw [this]
      simp only [signless]
      rw [if_neg (by omega)]
  · rintro ⟨h1, h2, h3⟩
    unfold itoa at h3
    split at h3
    · subst h3; simp at hs2
    · next hn =>
      subst h3
      rw [numP_dec (dec_len10.1 h2)]
      congr 1
      omega
end Go.Proofs.YtjebjninlejoeaaGreatDoor
