/- A text tells its code. Plain. -/
import Derived.Test.YtdhfdlelnkoomaaDoorTInj2
namespace Go.Proofs.YtdhfdlelnkoomaaDoor
set_option linter.unusedVariables false
set_option maxRecDepth 100000

theorem key_all (o : Int) (op : Nat) (nar : Bool) (d a bb u sz t : Nat) (hk : o = 1 ∨ o = 2 ∨ o = 3 ∨ o = 4 ∨ o = 5 ∨ o = 6 ∨ o = 7 ∨ o = 8 ∨ o = 9) : keyT (lineT o op nar d a bb u sz t) = if o = 3 ∧ op = 13 then 30 else o.toNat := by
  rcases hk with rfl | rfl | rfl | rfl | rfl | rfl | rfl | rfl | rfl
  · rw [key1]; simp
  · rw [key2]; simp
  · by_cases h : op = 13
    · subst h; rw [key3n]; simp
    · rw [key3 op nar d a bb u sz t h]; simp [h]
  · rw [key4]; simp
  · rw [key5]; simp
  · rw [key6]; simp
  · rw [key7]; simp
  · rw [key8]; simp
  · rw [key9]; simp
/-- What a right instruction leaves out is nought. -/
theorem one_zero {o : Int} {op : Nat} {nar : Bool} {d a b u sz t : Nat} {i n : Int} (h : oneP (mkI o op nar d a b u sz t) i n = true) :
    (o = 1 → op = 0 ∧ nar = false ∧ a = 0 ∧ b = 0 ∧ sz = 0 ∧ t = 0) ∧ (o = 2 → op = 0 ∧ nar = false ∧ b = 0 ∧ u = 0 ∧ sz = 0 ∧ t = 0) ∧ (o = 3 → u = 0 ∧ sz = 0 ∧ t = 0 ∧ (op = 13 → b = 0)) ∧
    (o = 4 ∨ o = 5 → op = 0 ∧ nar = false ∧ b = 0 ∧ t = 0) ∧ (o = 6 → op = 0 ∧ nar = false ∧ d = 0 ∧ t = 0) ∧ (o = 7 → op = 0 ∧ nar = false ∧ d = 0 ∧ a = 0 ∧ b = 0 ∧ u = 0 ∧ sz = 0) ∧
    (o = 8 → d = 0 ∧ u = 0 ∧ sz = 0) ∧ (o = 9 → op = 0 ∧ nar = false ∧ d = 0 ∧ b = 0 ∧ u = 0 ∧ sz = 0 ∧ t = 0) := by
  refine ⟨?_, ?_, ?_, ?_, ?_, ?_, ?_, ?_⟩
  · rintro rfl; simp [oneP, mkI] at h; simp_all
  · rintro rfl; simp [oneP, mkI] at h; simp_all
  · rintro rfl; simp [oneP, mkI] at h; omega
  · rintro (rfl | rfl) <;> (simp [oneP, mkI] at h; simp_all)
  · rintro rfl; simp [oneP, mkI] at h; simp_all
  · rintro rfl; simp [oneP, mkI] at h; simp_all
  · rintro rfl; simp [oneP, mkI] at h; omega
  · rintro rfl; simp [oneP, mkI] at h; simp_all
theorem insT_inj {f g : Ins} {i n i' n' : Nat} (hf : oneP f i n = true) (hg : oneP g i' n' = true) (okf : InsOk f) (okg : InsOk g) (hn : n ≤ 16384) (hn' : n' ≤ 16384) (h : insT f = insT g) : f = g := by
  obtain ⟨op, d, a, b, u, sz, t, lf⟩ := one_ln f i n hf okf hn
  obtain ⟨op', d', a', b', u', sz', t', lg⟩ := one_ln g i' n' hg okg hn'
  rw [lf.insT, lg.insT] at h
  have ef := lf.eq
  have eg := lg.eq
  have kf := lf.kind
  have kg := lg.kind
  have lf3 := lf.w3
  have lf8 := lf.w8
  have lg3 := lg.w3
  have lg8 := lg.w8
  have nf := lf.ln
  have ng := lg.ln
  clear lf lg
  generalize f.op = o at *
  generalize f.nar = nar at *
  generalize g.op = o' at *
  generalize g.nar = nar' at *
  subst ef eg
  have key := congrArg keyT h
  rw [key_all o op nar d a b u sz t kf, key_all o' op' nar' d' a' b' u' sz' t' kg] at key
  obtain ⟨rfl, h13⟩ : o = o' ∧ (o = 3 → (op = 13 ↔ op' = 13)) := by
    split at key <;> split at key <;> (constructor <;> omega)
  have zf := one_zero hf
  have zg := one_zero hg
  clear hf hg okf okg key
  obtain ⟨a1, a2, a3, a4, a6, a7, a8, a9⟩ := zf
  obtain ⟨b1, b2, b3, b4, b6, b7, b8, b9⟩ := zg
  rcases kf with rfl | rfl | rfl | rfl | rfl | rfl | rfl | rfl | rfl
  · obtain ⟨rfl, rfl⟩ := inj1 op op' nar nar' d a b u sz t d' a' b' u' sz' t' h
    obtain ⟨rfl, rfl, rfl, rfl, rfl, rfl⟩ := a1 rfl
    obtain ⟨rfl, rfl, rfl, rfl, rfl, rfl⟩ := b1 rfl
    rfl
  · obtain ⟨rfl, rfl⟩ := inj2 op op' nar nar' d a b u sz t d' a' b' u' sz' t' h
    obtain ⟨rfl, rfl, rfl, rfl, rfl, rfl⟩ := a2 rfl
    obtain ⟨rfl, rfl, rfl, rfl, rfl, rfl⟩ := b2 rfl
    rfl
  · obtain ⟨rfl, rfl, rfl, c⟩ := a3 rfl
    obtain ⟨rfl, rfl, rfl, c'⟩ := b3 rfl
    by_cases e13 : op = 13
    · obtain rfl := (h13 rfl).1 e13
      subst e13
      obtain ⟨rfl, rfl, rfl⟩ := inj3n nar nar' d a b 0 0 0 d' a' b' 0 0 0 h
      obtain rfl := c rfl
      obtain rfl := c' rfl
      rfl
    · obtain ⟨rfl, rfl, rfl, rfl, rfl⟩ := inj3 op op' nar nar' d a b 0 0 0 d' a' b' 0 0 0 e13 (fun e => e13 ((h13 rfl).2 e)) nf.lw ng.lw (.inl (lf3 rfl)) (.inl (lg3 rfl)) h
      rfl
  · obtain ⟨rfl, rfl, rfl, rfl⟩ := inj4 op op' nar nar' d a b u sz t d' a' b' u' sz' t' h
    obtain ⟨rfl, rfl, rfl, rfl⟩ := a4 (.inl rfl)
    obtain ⟨rfl, rfl, rfl, rfl⟩ := b4 (.inl rfl)
    rfl
  · obtain ⟨rfl, rfl, rfl, rfl⟩ := inj5 op op' nar nar' d a b u sz t d' a' b' u' sz' t' h
    obtain ⟨rfl, rfl, rfl, rfl⟩ := a4 (.inr rfl)
    obtain ⟨rfl, rfl, rfl, rfl⟩ := b4 (.inr rfl)
    rfl
  · obtain ⟨rfl, rfl, rfl, rfl⟩ := inj6 op op' nar nar' d a b u sz t d' a' b' u' sz' t' h
    obtain ⟨rfl, rfl, rfl, rfl⟩ := a6 rfl
    obtain ⟨rfl, rfl, rfl, rfl⟩ := b6 rfl
    rfl
  · obtain rfl := inj7 op op' nar nar' d a b u sz t d' a' b' u' sz' t' h
    obtain ⟨rfl, rfl, rfl, rfl, rfl, rfl, rfl⟩ := a7 rfl
    obtain ⟨rfl, rfl, rfl, rfl, rfl, rfl, rfl⟩ := b7 rfl
    rfl
  · obtain ⟨rfl, rfl, rfl, rfl, rfl⟩ := inj8 op op' nar nar' d a b u sz t d' a' b' u' sz' t' nf.lw ng.lw (.inr (lf8 rfl)) (.inr (lg8 rfl)) h
    obtain ⟨rfl, rfl, rfl⟩ := a8 rfl
    obtain ⟨rfl, rfl, rfl⟩ := b8 rfl
    rfl
  · obtain rfl := inj9 op op' nar nar' d a b u sz t d' a' b' u' sz' t' h
    obtain ⟨rfl, rfl, rfl, rfl, rfl, rfl, rfl⟩ := a9 rfl
    obtain ⟨rfl, rfl, rfl, rfl, rfl, rfl, rfl⟩ := b9 rfl
    rfl
/-- No line holds a newline. -/
def noNl (l : List UInt8) : Prop := ∀ b ∈ l, (b != 10) = true
theorem noNl_app {a b : List UInt8} (h : noNl a) (k : noNl b) : noNl (a ++ b) := fun x hx => (List.mem_append.1 hx).elim (h x) (k x)
theorem noNl_cons {c : UInt8} {b : List UInt8} (h : (c != 10) = true) (k : noNl b) : noNl (c :: b) := fun x hx => (List.mem_cons.1 hx).elim (fun e => e ▸ h) (k x)
theorem noNl_nil : noNl [] := fun x hx => by cases hx
theorem noNl_dec (u : Nat) : noNl (Lib.decDigits u) := fun b hb => by
  have := decDigits_dig u b hb
  simp only [bne_iff_ne, ne_eq]
  rintro rfl
  revert this; decide
theorem noNl_word (op : Nat) (h : op < 28) (nar : Bool) : noNl (wordT op nar) := by
  have : ∀ op : Nat, op < 28 → ∀ nar : Bool, ∀ b ∈ wordT op nar, (b != 10) = true := by decide
  exact this op h nar
theorem noNl_line (o : Int) (op : Nat) (nar : Bool) (d a bb u sz t : Nat) (hw : op < 28) (hk : o = 1 ∨ o = 2 ∨ o = 3 ∨ o = 4 ∨ o = 5 ∨ o = 6 ∨ o = 7 ∨ o = 8 ∨ o = 9) : noNl (lineT o op nar d a bb u sz t) := by
  have hww := noNl_word op hw nar
  rcases hk with rfl | rfl | rfl | rfl | rfl | rfl | rfl | rfl | rfl
  · rw [form1]; repeat first | exact noNl_dec _ | exact hww | exact noNl_nil | refine noNl_app ?_ ?_ | refine noNl_cons (by decide) ?_
  · rw [form2]; repeat first | exact noNl_dec _ | exact hww | exact noNl_nil | refine noNl_app ?_ ?_ | refine noNl_cons (by decide) ?_
  · by_cases h : op = 13
    · subst h; rw [form3n]; repeat first | exact noNl_dec _ | exact hww | exact noNl_nil | refine noNl_app ?_ ?_ | refine noNl_cons (by decide) ?_
    · rw [form3 _ _ _ _ _ _ _ _ h]; repeat first | exact noNl_dec _ | exact hww | exact noNl_nil | refine noNl_app ?_ ?_ | refine noNl_cons (by decide) ?_
  · rw [form4]; repeat first | exact noNl_dec _ | exact hww | exact noNl_nil | refine noNl_app ?_ ?_ | refine noNl_cons (by decide) ?_
  · rw [form5]; repeat first | exact noNl_dec _ | exact hww | exact noNl_nil | refine noNl_app ?_ ?_ | refine noNl_cons (by decide) ?_
  · rw [form6]; repeat first | exact noNl_dec _ | exact hww | exact noNl_nil | refine noNl_app ?_ ?_ | refine noNl_cons (by decide) ?_
  · rw [form7]; repeat first | exact noNl_dec _ | exact hww | exact noNl_nil | refine noNl_app ?_ ?_ | refine noNl_cons (by decide) ?_
  · rw [form8]; repeat first | exact noNl_dec _ | exact hww | exact noNl_nil | refine noNl_app ?_ ?_ | refine noNl_cons (by decide) ?_
  · rw [form9]; repeat first | exact noNl_dec _ | exact hww | exact noNl_nil | refine noNl_app ?_ ?_ | refine noNl_cons (by decide) ?_
theorem noNl_ins {f : Ins} {i n : Nat} (hf : oneP f i n = true) (ok : InsOk f) (hn : n ≤ 16384) : noNl (insT f) := by
  obtain ⟨op, d, a, b, u, sz, t, lf⟩ := one_ln f i n hf ok hn
  rw [lf.insT]
  exact noNl_line _ _ _ _ _ _ _ _ _ lf.ln.lw lf.kind
theorem count_noNl {l : List UInt8} (h : noNl l) : l.count 10 = 0 := by
  rw [List.count_eq_zero]
  intro hm
  have := h 10 hm
  revert this; decide
/-- A line of a right code has no newline; the row. -/
def rowT (xs : List Ins) (i : Nat) : List UInt8 := (Lib.itoa (i : Int) ++ [58, 32]) ++ insT (xs.getD i default)
theorem rowT_noNl {xs : List Ins} (h : rightP xs = true) (hok : ∀ f ∈ xs, InsOk f) {i : Nat} (hi : i < xs.length) : noNl (rowT xs i) := by
  have h1 := right_one h hi
  have h2 : InsOk (xs.getD i default) := by
    rw [List.getD_eq_getElem?_getD, List.getElem?_eq_getElem hi]; exact hok _ (List.getElem_mem hi)
  have h3 := noNl_ins h1 h2 (right_len h).2
  unfold rowT
  rw [itoaN]
  exact noNl_app (noNl_app (noNl_dec _) (noNl_cons (by decide) (noNl_cons (by decide) noNl_nil))) h3
theorem textUp_row (xs : List Ins) (k : Nat) : textUp xs (k + 1) = textUp xs k ++ (rowT xs k ++ [10]) := textUp_succ xs k
/-- THE LINES ARE COUNTED. -/
theorem text_count {xs : List Ins} (h : rightP xs = true) (hok : ∀ f ∈ xs, InsOk f) : ∀ k, k ≤ xs.length → (textUp xs k).count 10 = k
  | 0, _ => rfl
  | k + 1, hk => by
    rw [textUp_row, List.count_append, List.count_append, text_count h hok k (by omega), count_noNl (rowT_noNl h hok (by omega))]
    rfl
/-- The text is told line by line, from the first on. -/
def rowsT (xs : List Ins) (i m : Nat) : List UInt8 := ((List.range' i m).map fun j => rowT xs j ++ [10]).flatten
theorem rowsT_cons (xs : List Ins) (i m : Nat) : rowsT xs i (m + 1) = rowT xs i ++ 10 :: rowsT xs (i + 1) m := by
  simp [rowsT, List.range'_succ]
theorem textUp_rows (xs : List Ins) (k : Nat) : textUp xs k = rowsT xs 0 k := by
  unfold textUp rowsT rowT
  rw [List.range_eq_range']
theorem rows_inj {xs ys : List Ins} (hx : ∀ i, i < xs.length → noNl (rowT xs i)) (hy : ∀ i, i < ys.length → noNl (rowT ys i)) : ∀ (m m' i : Nat), i + m = xs.length → i + m' = ys.length → rowsT xs i m = rowsT ys i m' → m = m' ∧ ∀ j, i ≤ j → j < i + m → rowT xs j = rowT ys j
  | 0, 0, i, _, _, _ => ⟨rfl, fun j h1 h2 => absurd h2 (by omega)⟩
  | 0, m' + 1, i, _, _, h => by rw [rowsT_cons] at h; simp [rowsT] at h
  | m + 1, 0, i, _, _, h => by rw [rowsT_cons] at h; simp [rowsT] at h
  | m + 1, m' + 1, i, h1, h2, h => by
    rw [rowsT_cons, rowsT_cons] at h
    obtain ⟨e1, e2⟩ := span_inj (p := fun b => b != 10) _ _ _ _ (hx i (by omega)) (hy i (by omega)) (by intro b hb; simp at hb; subst hb; rfl) (by intro b hb; simp at hb; subst hb; rfl) h
    injection e2 with _ e2
    obtain ⟨e3, e4⟩ := rows_inj hx hy m m' (i + 1) (by omega) (by omega) e2
    refine ⟨by omega, fun j h3 h4 => ?_⟩
    rcases Nat.lt_or_ge i j with h5 | h5
    · exact e4 j h5 (by omega)
    · obtain rfl : j = i := by omega
      exact e1
theorem row_ins {xs ys : List Ins} {j : Nat} (h : rowT xs j = rowT ys j) : insT (xs.getD j default) = insT (ys.getD j default) := by
  unfold rowT at h
  exact List.append_cancel_left h
/-- TWO RIGHT CODES OF ONE TEXT ARE ONE. -/
theorem text_inj {xs ys : List Ins} (hx : rightP xs = true) (hy : rightP ys = true) (okx : ∀ f ∈ xs, InsOk f) (oky : ∀ f ∈ ys, InsOk f) (h : textP xs = textP ys) : xs = ys := by
  rw [textP, if_pos hx, textP, if_pos hy, textUp_rows, textUp_rows] at h
  obtain ⟨e1, e2⟩ := rows_inj (fun i hi => rowT_noNl hx okx hi) (fun i hi => rowT_noNl hy oky hi) _ _ 0 (by omega) (by omega) h
  refine List.ext_getElem e1 fun j h1 h2 => ?_
  have e3 := row_ins (e2 j (Nat.zero_le _) (by omega))
  have a1 := right_one hx h1
  have a2 := right_one hy h2
  simp only [List.getD_eq_getElem?_getD, List.getElem?_eq_getElem h1, List.getElem?_eq_getElem h2, Option.getD_some] at e3 a1 a2
  exact insT_inj a1 a2 (okx _ (List.getElem_mem h1)) (oky _ (List.getElem_mem h2)) (right_len hx).2 (right_len hy).2 e3
end Go.Proofs.YtdhfdlelnkoomaaDoor
