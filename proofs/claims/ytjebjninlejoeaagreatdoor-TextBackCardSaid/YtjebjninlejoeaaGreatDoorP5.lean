/- text, the plain law: what is shown is parsed as it was; what is parsed is right. -/
import Derived.Test.YtjebjninlejoeaaGreatDoorP4
namespace Go.Proofs.YtjebjninlejoeaaGreatDoor
open Go.Lib
set_option linter.unusedVariables false
set_option linter.unusedSimpArgs false

def okC (c : UInt8) : Bool := wordC c || signC c || decide (c = 32)
theorem ok_word {s : Nm} (h : s.all wordC = true) : s.all okC = true := by
  rw [List.all_eq_true] at h ⊢
  intro c hc
  simp [okC, h c hc]
theorem okC_ne {c : UInt8} (h : okC c = true) : c ≠ 10 := by rintro rfl; exact absurd h (by decide)
theorem ok_dec (u : Nat) : (decDigits u).all okC = true := ok_word (dec_word u)
theorem ok_itoa (n : Int) : (itoa n).all okC = true := by
  unfold itoa
  split
  · simp only [List.all_cons, ok_dec, Bool.and_true]; decide
  · exact ok_dec _
theorem ok_reg (n : Int) : (regN n).all okC = true := by
  unfold regN
  simp only [List.all_cons, ok_itoa, Bool.and_true]; decide
theorem ok_apart (n : Int) {b : Nm} (hb : b = [] ∨ b = [32]) : (apartS n b).all okC = true := by
  unfold apartS
  rcases hb with rfl | rfl <;> split <;> simp only [List.all_cons, List.all_append, ok_itoa, Bool.and_true, List.nil_append, List.all_nil] <;> decide
theorem ok_last (i : IV) : (lastS i).all okC = true := by
  unfold lastS
  split
  · exact ok_itoa _
  · exact ok_reg _
theorem ok_cell (n off : Int) : (cellS n off).all okC = true := by
  unfold cellS
  simp only [List.all_cons, List.all_append, ok_reg, ok_apart off (.inr rfl), Bool.and_true, Bool.true_and, List.all_nil]
  decide
theorem ok_base (op : Int) : (baseS op).all okC = true := by
  have h1 : ∀ s ∈ ops, s.all okC = true := by decide
  have h2 : ∀ s ∈ qus, s.all okC = true := by decide
  unfold baseS
  split
  · rw [List.getD_eq_getElem?_getD]
    cases h : qus[(op - 17).toNat]? with
    | none => rfl
    | some s => exact h2 s (List.mem_of_getElem? h)
  · rw [List.getD_eq_getElem?_getD]
    cases h : ops[(op - 1).toNat]? with
    | none => rfl
    | some s => exact h1 s (List.mem_of_getElem? h)
theorem ok_first (i : IV) : (firstS i).all okC = true := by
  unfold firstS
  rw [List.all_append, ok_base]
  cases i.narrow <;> decide
theorem ok_show (i : IV) : (showI i).all okC = true := by
  have e1 : okC 32 = true := by decide
  have e2 : okC 44 = true := by decide
  have w1 : jumpW.all okC = true := by decide
  have w2 : loadW.all okC = true := by decide
  have w3 : putW.all okC = true := by decide
  have w4 : exitW.all okC = true := by decide
  unfold showI
  split
  · exact w4
  · split
    · simp only [List.all_cons, List.all_append, e1, w1, ok_apart i.off (.inl rfl), Bool.and_true]
    · split
      · simp only [List.all_cons, List.all_append, e1, e2, w2, ok_itoa, ok_reg, ok_cell, Bool.and_true]
      · split
        · simp only [List.all_cons, List.all_append, e1, e2, w3, ok_itoa, ok_last, ok_cell, Bool.and_true]
        · split
          · simp only [List.all_cons, List.all_append, e1, ok_first, ok_reg, Bool.and_true]
          · split
            · simp only [List.all_cons, List.all_append, e1, e2, ok_first, ok_reg, ok_last, ok_apart i.off (.inl rfl), Bool.and_true]
            · simp only [List.all_cons, List.all_append, e1, e2, ok_first, ok_reg, ok_last, List.all_nil, Bool.and_true]
theorem linesA_app : ∀ (s cur r : Nm), (∀ c ∈ s, c ≠ 10) → linesA cur (s ++ 10 :: r) = (cur ++ s) :: linesA [] r
  | [], cur, r, _ => by simp [linesA]
  | c :: s, cur, r, h => by
    rw [List.cons_append, linesA, if_neg (h c (List.mem_cons_self ..)), linesA_app s _ r (fun d hd => h d (List.mem_cons_of_mem _ hd))]
    simp
theorem show_ne (i : IV) : ∀ c ∈ showI i, c ≠ 10 := fun c hc => okC_ne (List.all_eq_true.1 (ok_show i) c hc)
theorem lines_show : ∀ l : List IV, linesP (showP l) = l.map showI ++ [[]]
  | [] => rfl
  | i :: l => by
    have := lines_show l
    unfold linesP showP at *
    rw [List.flatMap_cons, List.append_assoc, List.cons_append, List.nil_append, linesA_app _ _ _ (show_ne i), this]
    rfl
theorem regP_colon : regP [58] = none := regP_other (by decide)
theorem mark_inst {t : List Nm} {a : Nm} (h : markT t = some a) : instP t = none := by
  unfold markT at h
  split at h
  · next x y =>
    split at h
    · next hy =>
      obtain ⟨rfl, _⟩ := hy
      unfold instP
      split
      · rfl
      · next s t e =>
        injection e with e1 e2
        subst e1 e2
        split
        · rfl
        · next i k hk =>
          have : ∀ k, (∃ q : IV × Nm × List Nm, restT i [[58]] k = some (q.1, q.2.1, q.2.2) ∧ q.2.2 = []) → False := by
            rintro k ⟨q, hq, hq2⟩
            cases k <;> simp [restT, aluT, regT, regP_colon, cellT, mustP, toT, labelP, signT] at hq
            rw [← hq.2.2] at hq2
            cases hq2
          split
          · next i' to hr => exact absurd ⟨(i', to, []), hr, rfl⟩ (this k)
          · rfl
    · cases h
  · cases h
theorem step_show {st : PS} {i : IV} (n : Nat) (h : rightP i = true) (hl : st.out.length < 4096) : stepP st n (showI i) = .ok { st with out := st.out ++ [i] } := by
  have h1 := (toks_show h).toks
  have h2 := inst_show h
  have h3 : markT (tokI i) = none := by
    cases hm : markT (tokI i) with
    | none => rfl
    | some a => rw [mark_inst hm] at h2; cases h2
  unfold stepP
  rw [h1]
  cases ht : tokI i with
  | nil => rw [ht] at h2; cases h2
  | cons a b =>
    rw [ht] at h2 h3
    simp only [h3, h2, h, if_true]
    rw [if_neg (by omega)]
theorem run_show : ∀ (l : List IV) (pre : List IV) (n : Nat), (∀ i ∈ l, rightP i = true) → pre.length + l.length ≤ 4096 → runP ⟨pre, [], []⟩ n (l.map showI ++ [[]]) = .ok ⟨pre ++ l, [], []⟩
  | [], pre, n, _, _ => by simp [runP, stepP, toks, toksA, flush]
  | i :: l, pre, n, h, hl => by
    rw [List.map_cons, List.cons_append, runP, step_show n (h i (List.mem_cons_self ..)) (by simp at hl; simp; omega)]
    simp only
    rw [run_show l (pre ++ [i]) (n + 1) (fun j hj => h j (List.mem_cons_of_mem _ hj)) (by simp at hl ⊢; omega)]
    simp
theorem itoa_len {n : Int} (h : -10000000000 < n ∧ n < 10000000000) : (itoa n).length ≤ 11 := by
  unfold itoa
  split
  · have := dec_len10.2 (show n.natAbs < 10000000000 by omega)
    simp; omega
  · have := dec_len10.2 (show n.toNat < 10000000000 by omega)
    omega
theorem reg_len {n : Int} (h : inI n 0 10 = true) : (regN n).length ≤ 12 := by
  have := inI_iff.1 h
  have := itoa_len (n := n) (by omega)
  unfold regN
  simp; omega
theorem apart_len {n : Int} (h : inI n (-32768) 32767 = true) (b : Nm) : (apartS n b).length ≤ 12 + b.length := by
  have := inI_iff.1 h
  have h1 := itoa_len (n := n) (by omega)
  have h2 := itoa_len (n := -n) (by omega)
  unfold apartS
  split <;> simp <;> omega
theorem last_len {i : IV} (h : secR i = true) : (lastS i).length ≤ 12 := by
  unfold secR at h
  unfold lastS
  cases hu : i.useImm with
  | true =>
    rw [hu] at h
    simp only [if_true, Bool.and_eq_true] at h ⊢
    have := inI_iff.1 h.2
    have := itoa_len (n := i.imm) (by omega)
    omega
  | false =>
    rw [hu] at h
    simp only [Bool.false_eq_true, if_false, Bool.and_eq_true] at h ⊢
    exact reg_len h.1
theorem cell_len {n off : Int} (h : inI n 0 10 = true) (h2 : inI off (-32768) 32767 = true) : (cellS n off).length ≤ 28 := by
  have a := reg_len h
  have b := apart_len h2 [32]
  unfold cellS
  simp at b ⊢; omega
theorem first_len (i : IV) : (firstS i).length ≤ 6 := by
  have h1 : ∀ s ∈ ops, s.length ≤ 4 := by decide
  have h2 : ∀ s ∈ qus, s.length ≤ 4 := by decide
  have hb : (baseS i.op).length ≤ 4 := by
    unfold baseS
    split
    · rw [List.getD_eq_getElem?_getD]
      cases h : qus[(i.op - 17).toNat]? with
      | none => simp
      | some s => exact h2 s (List.mem_of_getElem? h)
    · rw [List.getD_eq_getElem?_getD]
      cases h : ops[(i.op - 1).toNat]? with
      | none => simp
      | some s => exact h1 s (List.mem_of_getElem? h)
  unfold firstS
  rw [List.length_append]
  cases i.narrow <;> simp [n32] <;> omega
theorem show_len {i : IV} (h : rightP i = true) : (showI i).length ≤ 60 := by
  unfold rightP at h
  unfold showI
  have hf1 := first_len i
  split at h
  · next h1 =>
    simp only [Bool.and_eq_true, decide_eq_true_eq] at h
    obtain ⟨⟨⟨hd, hs⟩, ho⟩, hz⟩ := h
    have a := reg_len (in9 hd)
    have b := last_len hs
    simp only [show i.op ≠ 28 by omega, show i.op ≠ 16 by omega, show i.op ≠ 14 by omega, show i.op ≠ 15 by omega, show i.op ≠ 13 by omega, show ¬ 17 ≤ i.op by omega, if_false, List.append_nil]
    simp; omega
  · split at h
    · next h0 h1 =>
      simp only [Bool.and_eq_true, decide_eq_true_eq] at h
      have a := reg_len (in9 h.1)
      simp only [h1, Int.reduceEq, if_false, if_true]
      simp; omega
    · split at h
      · next h0 h00 h1 =>
        simp only [Bool.and_eq_true, decide_eq_true_eq] at h
        obtain ⟨⟨⟨⟨hd, hs⟩, hf⟩, hz⟩, he⟩ := h
        have a := reg_len (in9 hd)
        have b := cell_len hs hf
        have hz := size_eq hz
        have c := itoa_len (n := i.size) (by omega)
        simp only [h1, Int.reduceEq, if_false, if_true]
        simp [loadW]; omega
      · split at h
        · next h0 h00 h000 h1 =>
          simp only [Bool.and_eq_true, decide_eq_true_eq, Bool.not_eq_true'] at h
          obtain ⟨⟨⟨⟨hd, hf⟩, hz⟩, hs⟩, he⟩ := h
          have a := last_len hs
          have b := cell_len hd hf
          have hz := size_eq hz
          have c := itoa_len (n := i.size) (by omega)
          simp only [h1, Int.reduceEq, if_false, if_true]
          simp [putW]; omega
        · split at h
          · next h0 h00 h000 h0000 h1 =>
            simp only [Bool.and_eq_true, decide_eq_true_eq] at h
            have a := apart_len h.1 []
            simp only [h1, Int.reduceEq, if_false, if_true]
            simp [jumpW] at a ⊢; omega
          · split at h
            · next h0 h00 h000 h0000 h5 h1 =>
              simp only [Bool.and_eq_true, decide_eq_true_eq] at h
              obtain ⟨⟨⟨hd, hf⟩, hs⟩, hz⟩ := h
              have a := reg_len hd
              have b := last_len hs
              have c := apart_len hf []
              simp only [show i.op ≠ 28 by omega, show i.op ≠ 16 by omega, show i.op ≠ 14 by omega, show i.op ≠ 15 by omega, show i.op ≠ 13 by omega, h1.1, if_false, if_true]
              simp at c ⊢; omega
            · have h := of_decide_eq_true h
              rw [h]
              simp [iv0, exitW]
theorem showP_len : ∀ l : List IV, (∀ i ∈ l, rightP i = true) → (showP l).length ≤ 61 * l.length
  | [], _ => by simp [showP]
  | i :: l, h => by
    have h1 := show_len (h i (List.mem_cons_self ..))
    have h2 := showP_len l fun j hj => h j (List.mem_cons_of_mem _ hj)
    unfold showP at *
    rw [List.flatMap_cons]
    simp only [List.length_append, List.length_cons, List.length_nil]
    omega
/-- What is shown is parsed as it was. -/
theorem parse_show {l : List IV} (h : ∀ i ∈ l, rightP i = true) (hl : l.length ≤ 4096) : parseP (showP l) = .ok l := by
  have h1 := showP_len l h
  unfold parseP
  rw [if_neg (by omega), lines_show]
  have := run_show l [] 1 h (by simpa using hl)
  unfold ps0
  rw [this]
  rfl
theorem count_show : ∀ l : List IV, (showP l).count 10 = l.length
  | [] => rfl
  | i :: l => by
    have h0 : (showI i).count 10 = 0 := List.count_eq_zero.2 fun hc => show_ne i 10 hc rfl
    have := count_show l
    unfold showP at *
    rw [List.flatMap_cons, List.count_append, List.count_append, this, h0]
    simp; omega
end Go.Proofs.YtjebjninlejoeaaGreatDoor
