/- A text tells its code: numbers, words, lines. Plain. -/
import Derived.Test.YtdhfdlelnkoomaaDoorTText
namespace Go.Proofs.YtdhfdlelnkoomaaDoor
set_option linter.unusedVariables false
set_option maxRecDepth 100000

def isDig (b : UInt8) : Bool := decide (48 ≤ b.toNat) && decide (b.toNat ≤ 57)
theorem dig_of (n : Nat) (h : n < 10) : isDig (UInt8.ofNat (48 + n)) = true := by
  simp [isDig]; omega
theorem decDigits_dig (u : Nat) : ∀ b ∈ Lib.decDigits u, isDig b = true := by
  induction u using Nat.strongRecOn with
  | _ u ih =>
    intro b hb
    rw [Lib.decDigits] at hb
    split at hb
    · next h =>
      simp only [List.mem_cons, List.not_mem_nil, or_false] at hb
      rw [hb]; exact dig_of u h
    · next h =>
      rcases List.mem_append.1 hb with h1 | h1
      · exact ih (u / 10) (by omega) b h1
      · simp only [List.mem_cons, List.not_mem_nil, or_false] at h1
        rw [h1]; exact dig_of _ (by omega)
theorem decDigits_ne (u : Nat) : Lib.decDigits u ≠ [] := by
  rw [Lib.decDigits]; split <;> simp
theorem decDigits_inj : ∀ u v : Nat, Lib.decDigits u = Lib.decDigits v → u = v := by
  intro u
  induction u using Nat.strongRecOn with
  | _ u ih =>
    intro v h
    have dig : ∀ a b : Nat, a < 10 → b < 10 → UInt8.ofNat (48 + a) = UInt8.ofNat (48 + b) → a = b := by
      intro a b ha hb e
      have := congrArg UInt8.toNat e
      simp at this
      omega
    rw [Lib.decDigits] at h
    split at h
    · next h1 =>
      rw [Lib.decDigits] at h
      split at h
      · next h2 => injection h with h; exact dig u v h1 h2 h
      · next h2 =>
        have hne := decDigits_ne (v / 10)
        have h5 := congrArg List.length h
        have : 1 ≤ (Lib.decDigits (v / 10)).length := List.length_pos_iff.2 hne
        simp only [List.length_append, List.length_cons, List.length_nil] at h5; omega
    · next h1 =>
      rw [Lib.decDigits.eq_def v] at h
      split at h
      · next h2 =>
        have hne := decDigits_ne (u / 10)
        have h5 := congrArg List.length h
        have : 1 ≤ (Lib.decDigits (u / 10)).length := List.length_pos_iff.2 hne
        simp only [List.length_append, List.length_cons, List.length_nil] at h5; omega
      · next h2 =>
        obtain ⟨e1, e2⟩ := List.append_inj' h rfl
        have := ih (u / 10) (by omega) (v / 10) e1
        injection e2 with e2
        have := dig _ _ (by omega) (by omega) e2
        omega
theorem itoaN (n : Nat) : Lib.itoa (n : Int) = Lib.decDigits n := Lib.itoa_nonneg n
/-- Two lists alike, each a run of p and then a rest that begins otherwise. -/
theorem span_inj {p : UInt8 → Bool} : ∀ (D D' R R' : List UInt8), (∀ b ∈ D, p b = true) → (∀ b ∈ D', p b = true) → (∀ b, R.head? = some b → p b = false) → (∀ b, R'.head? = some b → p b = false) → D ++ R = D' ++ R' → D = D' ∧ R = R'
  | [], [], R, R', _, _, _, _, h => ⟨rfl, h⟩
  | [], b :: D', R, R', _, h2, h3, _, h => by
    have e : R = b :: (D' ++ R') := h
    have := h3 b (by rw [e]; rfl)
    rw [h2 b (List.mem_cons_self)] at this
    cases this
  | a :: D, [], R, R', h1, _, _, h4, h => by
    have e : R' = a :: (D ++ R) := h.symm
    have := h4 a (by rw [e]; rfl)
    rw [h1 a (List.mem_cons_self)] at this
    cases this
  | a :: D, b :: D', R, R', h1, h2, h3, h4, h => by
    have h' : a :: (D ++ R) = b :: (D' ++ R') := h
    injection h' with e1 e2
    obtain ⟨e3, e4⟩ := span_inj D D' R R' (fun x hx => h1 x (List.mem_cons_of_mem _ hx)) (fun x hx => h2 x (List.mem_cons_of_mem _ hx)) h3 h4 e2
    exact ⟨by rw [e1, e3], e4⟩
theorem drop_run {p : UInt8 → Bool} : ∀ (D R : List UInt8), (∀ b ∈ D, p b = true) → (∀ b, R.head? = some b → p b = false) → (D ++ R).dropWhile p = R
  | [], R, _, h => by
    cases R with
    | nil => rfl
    | cons b r => rw [List.nil_append, List.dropWhile_cons, h b rfl]; rfl
  | a :: D, R, h1, h => by
    rw [List.cons_append, List.dropWhile_cons, h1 a (List.mem_cons_self), if_pos rfl]
    exact drop_run D R (fun x hx => h1 x (List.mem_cons_of_mem _ hx)) h
/-- Numbers in front of the rest. -/
theorem num_inj {u v : Nat} {R R' : List UInt8} (h : Lib.decDigits u ++ R = Lib.decDigits v ++ R') (h3 : ∀ b, R.head? = some b → isDig b = false) (h4 : ∀ b, R'.head? = some b → isDig b = false) : u = v ∧ R = R' := by
  obtain ⟨e1, e2⟩ := span_inj _ _ _ _ (decDigits_dig u) (decDigits_dig v) h3 h4 h
  exact ⟨decDigits_inj u v e1, e2⟩
theorem word_sp : ∀ op : Nat, op < 28 → ∀ nar : Bool, ∀ b ∈ wordT op nar, (b != 32) = true := by decide
def wOkB (op : Nat) : Bool := (decide (1 ≤ op) && decide (op ≤ 13)) || (decide (17 ≤ op) && decide (op ≤ 27))
theorem word_inj_fin : ∀ op op' : Fin 28, ∀ nar nar' : Bool, (wOkB op.val && (wOkB op'.val && (wordT op.val nar == wordT op'.val nar'))) = true → op.val = op'.val ∧ nar = nar' := by decide +kernel
theorem word_inj (op : Nat) (h : op < 28) (op' : Nat) (h' : op' < 28) (w : (1 ≤ op ∧ op ≤ 13) ∨ (17 ≤ op ∧ op ≤ 27)) (w' : (1 ≤ op' ∧ op' ≤ 13) ∨ (17 ≤ op' ∧ op' ≤ 27)) (nar nar' : Bool) (e : wordT op nar = wordT op' nar') : op = op' ∧ nar = nar' := by
  refine word_inj_fin ⟨op, h⟩ ⟨op', h'⟩ nar nar' ?_
  have a1 : wOkB op = true := by simp [wOkB]; omega
  have a2 : wOkB op' = true := by simp [wOkB]; omega
  simp only [a1, a2, e, beq_self_eq_true, Bool.and_self]
theorem wrd_inj {op op' : Nat} {nar nar' : Bool} {R R' : List UInt8} (h1 : op < 28) (h2 : op' < 28) (w1 : (1 ≤ op ∧ op ≤ 13) ∨ (17 ≤ op ∧ op ≤ 27)) (w2 : (1 ≤ op' ∧ op' ≤ 13) ∨ (17 ≤ op' ∧ op' ≤ 27)) (h : wordT op nar ++ 32 :: R = wordT op' nar' ++ 32 :: R') : op = op' ∧ nar = nar' ∧ R = R' := by
  obtain ⟨e1, e2⟩ := span_inj (p := fun b => b != 32) _ _ _ _ (word_sp op h1 nar) (word_sp op' h2 nar') (by intro b hb; simp at hb; subst hb; rfl) (by intro b hb; simp at hb; subst hb; rfl) h
  obtain ⟨e3, e4⟩ := word_inj op h1 op' h2 w1 w2 nar nar' e1
  injection e2 with _ e2
  exact ⟨e3, e4, e2⟩
/-- The kind of an instruction, from its line. -/
def keyT : List UInt8 → Nat
  | 115 :: _ => 6
  | 103 :: _ => 7
  | 105 :: _ => 8
  | 101 :: _ => 9
  | 114 :: r =>
    match ((r.dropWhile isDig).drop 3) with
    | 110 :: _ => 30
    | 112 :: _ => 4
    | 115 :: _ => 5
    | 114 :: q => match q.dropWhile isDig with
      | [] => 2
      | _ => 3
    | _ => 1
  | _ => 0
end Go.Proofs.YtdhfdlelnkoomaaDoor
