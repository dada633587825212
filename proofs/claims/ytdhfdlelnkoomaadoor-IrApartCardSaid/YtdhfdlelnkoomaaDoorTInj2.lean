/- A line tells its instruction. Plain. -/
import Derived.Test.YtdhfdlelnkoomaaDoorTInj
namespace Go.Proofs.YtdhfdlelnkoomaaDoor
set_option linter.unusedVariables false
set_option maxRecDepth 100000

theorem dec_head (u : Nat) : ∃ c cs, Lib.decDigits u = c :: cs ∧ isDig c = true := by
  cases h : Lib.decDigits u with
  | nil => exact absurd h (decDigits_ne u)
  | cons c cs => exact ⟨c, cs, rfl, decDigits_dig u c (by rw [h]; exact List.mem_cons_self)⟩
theorem run_dec (u : Nat) (b : UInt8) (R : List UInt8) (hb : isDig b = false) : (Lib.decDigits u ++ b :: R).dropWhile isDig = b :: R :=
  drop_run _ _ (decDigits_dig u) (fun x hx => by simp at hx; subst hx; exact hb)
theorem run_dec0 (u : Nat) : (Lib.decDigits u).dropWhile isDig = [] := by
  have := drop_run (Lib.decDigits u) [] (decDigits_dig u) (fun x hx => by simp at hx)
  simpa using this
theorem head_sp {b c : UInt8} {R : List UInt8} (h : isDig c = false) : (c :: R).head? = some b → isDig b = false := fun hx => by simp at hx; subst hx; exact h
theorem head_nil {b : UInt8} : ([] : List UInt8).head? = some b → isDig b = false := fun hx => by simp at hx
set_option linter.unusedSimpArgs false in
theorem form1 (op : Nat) (nar : Bool) (d a bb u sz t : Nat) : lineT 1 op nar d a bb u sz t = 114 :: (Lib.decDigits d ++ 32 :: 61 :: 32 :: Lib.decDigits u) := by
  simp [lineT, lineP, rT, cellT, eqT, itoaN]
set_option linter.unusedSimpArgs false in
theorem form2 (op : Nat) (nar : Bool) (d a bb u sz t : Nat) : lineT 2 op nar d a bb u sz t = 114 :: (Lib.decDigits d ++ 32 :: 61 :: 32 :: 114 :: Lib.decDigits a) := by
  simp [lineT, lineP, rT, cellT, eqT, itoaN]
set_option linter.unusedSimpArgs false in
theorem form3n (nar : Bool) (d a bb u sz t : Nat) : lineT 3 13 nar d a bb u sz t = 114 :: (Lib.decDigits d ++ 32 :: 61 :: 32 :: (wordT 13 nar ++ 32 :: 114 :: Lib.decDigits a)) := by
  simp [lineT, lineP, rT, cellT, eqT, itoaN]
set_option linter.unusedSimpArgs false in
theorem form3 (op : Nat) (nar : Bool) (d a bb u sz t : Nat) (hop : op ≠ 13) : lineT 3 op nar d a bb u sz t = 114 :: (Lib.decDigits d ++ 32 :: 61 :: 32 :: 114 :: (Lib.decDigits a ++ 32 :: (wordT op nar ++ 32 :: 114 :: Lib.decDigits bb))) := by
  simp [lineT, lineP, rT, cellT, eqT, itoaN, hop]
set_option linter.unusedSimpArgs false in
theorem form4 (op : Nat) (nar : Bool) (d a bb u sz t : Nat) : lineT 4 op nar d a bb u sz t = 114 :: (Lib.decDigits d ++ 32 :: 61 :: 32 :: 112 :: 97 :: 99 :: 107 :: 101 :: 116 :: (Lib.decDigits sz ++ 91 :: 114 :: (Lib.decDigits a ++ 32 :: 43 :: 32 :: (Lib.decDigits u ++ [93])))) := by
  simp [lineT, lineP, rT, cellT, eqT, itoaN]
set_option linter.unusedSimpArgs false in
theorem form5 (op : Nat) (nar : Bool) (d a bb u sz t : Nat) : lineT 5 op nar d a bb u sz t = 114 :: (Lib.decDigits d ++ 32 :: 61 :: 32 :: 115 :: 116 :: 97 :: 99 :: 107 :: (Lib.decDigits sz ++ 91 :: 114 :: (Lib.decDigits a ++ 32 :: 43 :: 32 :: (Lib.decDigits u ++ [93])))) := by
  simp [lineT, lineP, rT, cellT, eqT, itoaN]
set_option linter.unusedSimpArgs false in
theorem form6 (op : Nat) (nar : Bool) (d a bb u sz t : Nat) : lineT 6 op nar d a bb u sz t = 115 :: 116 :: 97 :: 99 :: 107 :: (Lib.decDigits sz ++ 91 :: 114 :: (Lib.decDigits a ++ 32 :: 43 :: 32 :: (Lib.decDigits u ++ 93 :: 32 :: 61 :: 32 :: 114 :: Lib.decDigits bb))) := by
  simp [lineT, lineP, rT, cellT, eqT, itoaN]
set_option linter.unusedSimpArgs false in
theorem form7 (op : Nat) (nar : Bool) (d a bb u sz t : Nat) : lineT 7 op nar d a bb u sz t = 103 :: 111 :: 116 :: 111 :: 32 :: Lib.decDigits t := by
  simp [lineT, lineP, rT, cellT, eqT, itoaN]
set_option linter.unusedSimpArgs false in
theorem form8 (op : Nat) (nar : Bool) (d a bb u sz t : Nat) : lineT 8 op nar d a bb u sz t = 105 :: 102 :: 32 :: 114 :: (Lib.decDigits a ++ 32 :: (wordT op nar ++ 32 :: 114 :: (Lib.decDigits bb ++ 32 :: 103 :: 111 :: 116 :: 111 :: 32 :: Lib.decDigits t))) := by
  simp [lineT, lineP, rT, cellT, eqT, itoaN]
set_option linter.unusedSimpArgs false in
theorem form9 (op : Nat) (nar : Bool) (d a bb u sz t : Nat) : lineT 9 op nar d a bb u sz t = 101 :: 110 :: 100 :: 32 :: 114 :: Lib.decDigits a := by
  simp [lineT, lineP, rT, cellT, eqT, itoaN]
theorem key1 (op : Nat) (nar : Bool) (d a bb u sz t : Nat) : keyT (lineT 1 op nar d a bb u sz t) = 1 := by
  rw [form1]
  obtain ⟨c, cs, hc, hd⟩ := dec_head u
  simp only [keyT, run_dec d 32 _ (by decide), List.drop_succ_cons, List.drop_zero, hc]
  have h1 : c ≠ 110 := by rintro rfl; revert hd; decide
  have h2 : c ≠ 112 := by rintro rfl; revert hd; decide
  have h3 : c ≠ 115 := by rintro rfl; revert hd; decide
  have h4 : c ≠ 114 := by rintro rfl; revert hd; decide
  split <;> simp_all
theorem key2 (op : Nat) (nar : Bool) (d a bb u sz t : Nat) : keyT (lineT 2 op nar d a bb u sz t) = 2 := by
  rw [form2]
  simp only [keyT, run_dec d 32 _ (by decide), List.drop_succ_cons, List.drop_zero, run_dec0 a]
theorem key3n (nar : Bool) (d a bb u sz t : Nat) : keyT (lineT 3 13 nar d a bb u sz t) = 30 := by
  rw [form3n]
  simp only [keyT, run_dec d 32 _ (by decide), List.drop_succ_cons, List.drop_zero]
  cases nar <;> rfl
theorem key3 (op : Nat) (nar : Bool) (d a bb u sz t : Nat) (hop : op ≠ 13) : keyT (lineT 3 op nar d a bb u sz t) = 3 := by
  rw [form3 _ _ _ _ _ _ _ _ hop]
  simp only [keyT, run_dec d 32 _ (by decide), List.drop_succ_cons, List.drop_zero, run_dec a 32 _ (by decide)]
theorem key4 (op : Nat) (nar : Bool) (d a bb u sz t : Nat) : keyT (lineT 4 op nar d a bb u sz t) = 4 := by
  rw [form4]
  simp only [keyT, run_dec d 32 _ (by decide), List.drop_succ_cons, List.drop_zero]
theorem key5 (op : Nat) (nar : Bool) (d a bb u sz t : Nat) : keyT (lineT 5 op nar d a bb u sz t) = 5 := by
  rw [form5]
  simp only [keyT, run_dec d 32 _ (by decide), List.drop_succ_cons, List.drop_zero]
theorem key6 (op : Nat) (nar : Bool) (d a bb u sz t : Nat) : keyT (lineT 6 op nar d a bb u sz t) = 6 := by
  rw [form6]
  rfl
theorem key7 (op : Nat) (nar : Bool) (d a bb u sz t : Nat) : keyT (lineT 7 op nar d a bb u sz t) = 7 := by
  rw [form7]
  rfl
theorem key8 (op : Nat) (nar : Bool) (d a bb u sz t : Nat) : keyT (lineT 8 op nar d a bb u sz t) = 8 := by
  rw [form8]
  rfl
theorem key9 (op : Nat) (nar : Bool) (d a bb u sz t : Nat) : keyT (lineT 9 op nar d a bb u sz t) = 9 := by
  rw [form9]
  rfl
theorem inj1 (op op' : Nat) (nar nar' : Bool) (d a bb u sz t d' a' bb' u' sz' t' : Nat) (h : lineT 1 op nar d a bb u sz t = lineT 1 op' nar' d' a' bb' u' sz' t') : d = d' ∧ u = u' := by
  rw [form1, form1] at h
  injection h with _ h
  obtain ⟨e0, h⟩ := num_inj h (fun b => head_sp (by decide)) (fun b => head_sp (by decide))
  injection h with _ h
  injection h with _ h
  injection h with _ h
  have e1 := decDigits_inj _ _ h
  exact ⟨e0, e1⟩
theorem inj2 (op op' : Nat) (nar nar' : Bool) (d a bb u sz t d' a' bb' u' sz' t' : Nat) (h : lineT 2 op nar d a bb u sz t = lineT 2 op' nar' d' a' bb' u' sz' t') : d = d' ∧ a = a' := by
  rw [form2, form2] at h
  injection h with _ h
  obtain ⟨e0, h⟩ := num_inj h (fun b => head_sp (by decide)) (fun b => head_sp (by decide))
  injection h with _ h
  injection h with _ h
  injection h with _ h
  injection h with _ h
  have e1 := decDigits_inj _ _ h
  exact ⟨e0, e1⟩
theorem inj3n (nar nar' : Bool) (d a bb u sz t d' a' bb' u' sz' t' : Nat) (h : lineT 3 13 nar d a bb u sz t = lineT 3 13 nar' d' a' bb' u' sz' t') : nar = nar' ∧ d = d' ∧ a = a' := by
  rw [form3n, form3n] at h
  injection h with _ h
  obtain ⟨e0, h⟩ := num_inj h (fun b => head_sp (by decide)) (fun b => head_sp (by decide))
  injection h with _ h
  injection h with _ h
  injection h with _ h
  obtain ⟨_, f1, h⟩ := wrd_inj (by decide) (by decide) (by decide) (by decide) h
  injection h with _ h
  have e1 := decDigits_inj _ _ h
  exact ⟨f1, e0, e1⟩
theorem inj3 (op op' : Nat) (nar nar' : Bool) (d a bb u sz t d' a' bb' u' sz' t' : Nat) (hop : op ≠ 13) (hop' : op' ≠ 13) (l1 : op < 28) (l2 : op' < 28) (w1 : (1 ≤ op ∧ op ≤ 13) ∨ (17 ≤ op ∧ op ≤ 27)) (w2 : (1 ≤ op' ∧ op' ≤ 13) ∨ (17 ≤ op' ∧ op' ≤ 27)) (h : lineT 3 op nar d a bb u sz t = lineT 3 op' nar' d' a' bb' u' sz' t') : op = op' ∧ nar = nar' ∧ d = d' ∧ a = a' ∧ bb = bb' := by
  rw [form3 _ _ _ _ _ _ _ _ hop, form3 _ _ _ _ _ _ _ _ hop'] at h
  injection h with _ h
  obtain ⟨e0, h⟩ := num_inj h (fun b => head_sp (by decide)) (fun b => head_sp (by decide))
  injection h with _ h
  injection h with _ h
  injection h with _ h
  injection h with _ h
  obtain ⟨e1, h⟩ := num_inj h (fun b => head_sp (by decide)) (fun b => head_sp (by decide))
  injection h with _ h
  obtain ⟨f0, f1, h⟩ := wrd_inj l1 l2 w1 w2 h
  injection h with _ h
  have e2 := decDigits_inj _ _ h
  exact ⟨f0, f1, e0, e1, e2⟩
theorem inj4 (op op' : Nat) (nar nar' : Bool) (d a bb u sz t d' a' bb' u' sz' t' : Nat) (h : lineT 4 op nar d a bb u sz t = lineT 4 op' nar' d' a' bb' u' sz' t') : d = d' ∧ sz = sz' ∧ a = a' ∧ u = u' := by
  rw [form4, form4] at h
  injection h with _ h
  obtain ⟨e0, h⟩ := num_inj h (fun b => head_sp (by decide)) (fun b => head_sp (by decide))
  injection h with _ h
  injection h with _ h
  injection h with _ h
  injection h with _ h
  injection h with _ h
  injection h with _ h
  injection h with _ h
  injection h with _ h
  injection h with _ h
  obtain ⟨e1, h⟩ := num_inj h (fun b => head_sp (by decide)) (fun b => head_sp (by decide))
  injection h with _ h
  injection h with _ h
  obtain ⟨e2, h⟩ := num_inj h (fun b => head_sp (by decide)) (fun b => head_sp (by decide))
  injection h with _ h
  injection h with _ h
  injection h with _ h
  obtain ⟨e3, h⟩ := num_inj h (fun b => head_sp (by decide)) (fun b => head_sp (by decide))
  exact ⟨e0, e1, e2, e3⟩
theorem inj5 (op op' : Nat) (nar nar' : Bool) (d a bb u sz t d' a' bb' u' sz' t' : Nat) (h : lineT 5 op nar d a bb u sz t = lineT 5 op' nar' d' a' bb' u' sz' t') : d = d' ∧ sz = sz' ∧ a = a' ∧ u = u' := by
  rw [form5, form5] at h
  injection h with _ h
  obtain ⟨e0, h⟩ := num_inj h (fun b => head_sp (by decide)) (fun b => head_sp (by decide))
  injection h with _ h
  injection h with _ h
  injection h with _ h
  injection h with _ h
  injection h with _ h
  injection h with _ h
  injection h with _ h
  injection h with _ h
  obtain ⟨e1, h⟩ := num_inj h (fun b => head_sp (by decide)) (fun b => head_sp (by decide))
  injection h with _ h
  injection h with _ h
  obtain ⟨e2, h⟩ := num_inj h (fun b => head_sp (by decide)) (fun b => head_sp (by decide))
  injection h with _ h
  injection h with _ h
  injection h with _ h
  obtain ⟨e3, h⟩ := num_inj h (fun b => head_sp (by decide)) (fun b => head_sp (by decide))
  exact ⟨e0, e1, e2, e3⟩
theorem inj6 (op op' : Nat) (nar nar' : Bool) (d a bb u sz t d' a' bb' u' sz' t' : Nat) (h : lineT 6 op nar d a bb u sz t = lineT 6 op' nar' d' a' bb' u' sz' t') : sz = sz' ∧ a = a' ∧ u = u' ∧ bb = bb' := by
  rw [form6, form6] at h
  injection h with _ h
  injection h with _ h
  injection h with _ h
  injection h with _ h
  injection h with _ h
  obtain ⟨e0, h⟩ := num_inj h (fun b => head_sp (by decide)) (fun b => head_sp (by decide))
  injection h with _ h
  injection h with _ h
  obtain ⟨e1, h⟩ := num_inj h (fun b => head_sp (by decide)) (fun b => head_sp (by decide))
  injection h with _ h
  injection h with _ h
  injection h with _ h
  obtain ⟨e2, h⟩ := num_inj h (fun b => head_sp (by decide)) (fun b => head_sp (by decide))
  injection h with _ h
  injection h with _ h
  injection h with _ h
  injection h with _ h
  injection h with _ h
  have e3 := decDigits_inj _ _ h
  exact ⟨e0, e1, e2, e3⟩
theorem inj7 (op op' : Nat) (nar nar' : Bool) (d a bb u sz t d' a' bb' u' sz' t' : Nat) (h : lineT 7 op nar d a bb u sz t = lineT 7 op' nar' d' a' bb' u' sz' t') : t = t' := by
  rw [form7, form7] at h
  injection h with _ h
  injection h with _ h
  injection h with _ h
  injection h with _ h
  injection h with _ h
  have e0 := decDigits_inj _ _ h
  exact e0
theorem inj8 (op op' : Nat) (nar nar' : Bool) (d a bb u sz t d' a' bb' u' sz' t' : Nat) (l1 : op < 28) (l2 : op' < 28) (w1 : (1 ≤ op ∧ op ≤ 13) ∨ (17 ≤ op ∧ op ≤ 27)) (w2 : (1 ≤ op' ∧ op' ≤ 13) ∨ (17 ≤ op' ∧ op' ≤ 27)) (h : lineT 8 op nar d a bb u sz t = lineT 8 op' nar' d' a' bb' u' sz' t') : op = op' ∧ nar = nar' ∧ a = a' ∧ bb = bb' ∧ t = t' := by
  rw [form8, form8] at h
  injection h with _ h
  injection h with _ h
  injection h with _ h
  injection h with _ h
  obtain ⟨e0, h⟩ := num_inj h (fun b => head_sp (by decide)) (fun b => head_sp (by decide))
  injection h with _ h
  obtain ⟨f0, f1, h⟩ := wrd_inj l1 l2 w1 w2 h
  injection h with _ h
  obtain ⟨e1, h⟩ := num_inj h (fun b => head_sp (by decide)) (fun b => head_sp (by decide))
  injection h with _ h
  injection h with _ h
  injection h with _ h
  injection h with _ h
  injection h with _ h
  injection h with _ h
  have e2 := decDigits_inj _ _ h
  exact ⟨f0, f1, e0, e1, e2⟩
theorem inj9 (op op' : Nat) (nar nar' : Bool) (d a bb u sz t d' a' bb' u' sz' t' : Nat) (h : lineT 9 op nar d a bb u sz t = lineT 9 op' nar' d' a' bb' u' sz' t') : a = a' := by
  rw [form9, form9] at h
  injection h with _ h
  injection h with _ h
  injection h with _ h
  injection h with _ h
  injection h with _ h
  have e0 := decDigits_inj _ _ h
  exact e0
end Go.Proofs.YtdhfdlelnkoomaaDoor
