/- RunEnds: the plain law. -/
import Derived.Test.YtbfegghkipoppaaZ17
namespace Go.Proofs.Ytbfegghkipoppaa
open Go.RowKit Go.Shelf
set_option linter.unusedVariables false
set_option maxRecDepth 100000

theorem DoE_is (nar : Bool) (op b : Int) (h : 1 ≤ op ∧ op ≤ 13) : DoE nar op b = 0 ∨ DoE nar op b = 113 := by
  unfold DoE dErr
  simp only [if_pos h]
  split
  · split <;> simp
  · split <;> simp
/-- Which faults there are. -/
theorem err_is (pk : List Int) (f : Ins) (r st : List Int) (i n : Int) (e pc : Int) (hs : stepP pk f r st pc = .err e) (h1 : oneP f i n = true) : (e = 113 ∧ f.op = 3) ∨ (e = 112 ∧ (f.op = 4 ∨ f.op = 5 ∨ f.op = 6)) := by
  unfold stepP at hs
  by_cases e1 : f.op = 1
  · simp only [e1, if_true] at hs; cases hs
  by_cases e2 : f.op = 2
  · simp only [if_neg e1, if_pos e2] at hs; cases hs
  by_cases e3 : f.op = 3
  · simp only [if_neg e1, if_neg e2, if_pos e3] at hs
    split at hs
    · cases hs
    · rename_i hne
      injection hs with hs
      rw [one_alu f i n e3] at h1
      simp at h1
      rcases DoE_is f.nar f.what (r.getD f.b.toNat 0) ⟨h1.2.1.1, h1.2.1.2⟩ with h | h
      · exact absurd h hne
      · exact .inl ⟨by rw [← hs, h], e3⟩
  by_cases e4 : f.op = 4
  · simp only [if_neg e1, if_neg e2, if_neg e3, if_pos e4] at hs
    split at hs
    · cases hs
    · rename_i hne
      injection hs with hs
      rw [one_load f i n (.inl e4)] at h1
      simp at h1
      have hz : okSz f.size = true := sized_ok h1.2.2
      unfold errOf at hne hs
      rw [if_pos hz] at hne hs
      refine .inr ⟨?_, .inl e4⟩
      split at hs
      · rename_i h'; rw [if_pos h'] at hne; exact absurd rfl hne
      · exact hs.symm
  by_cases e5 : f.op = 5
  · simp only [if_neg e1, if_neg e2, if_neg e3, if_neg e4, if_pos e5] at hs
    split at hs
    · cases hs
    · injection hs with hs; exact .inr ⟨hs.symm, .inr (.inl e5)⟩
  by_cases e6 : f.op = 6
  · simp only [if_neg e1, if_neg e2, if_neg e3, if_neg e4, if_neg e5, if_pos e6] at hs
    split at hs
    · cases hs
    · injection hs with hs; exact .inr ⟨hs.symm, .inr (.inr e6)⟩
  by_cases e7 : f.op = 7
  · simp only [if_neg e1, if_neg e2, if_neg e3, if_neg e4, if_neg e5, if_neg e6, if_pos e7] at hs; cases hs
  by_cases e8 : f.op = 8
  · simp only [if_neg e1, if_neg e2, if_neg e3, if_neg e4, if_neg e5, if_neg e6, if_neg e7, if_pos e8] at hs
    split at hs <;> cases hs
  · simp only [if_neg e1, if_neg e2, if_neg e3, if_neg e4, if_neg e5, if_neg e6, if_neg e7, if_neg e8] at hs; cases hs
/-- What holds of each outcome. -/
structure OutOk (xs : List Ins) (o : Out) : Prop where
  s1 : 1 ≤ o.steps
  s2 : o.steps ≤ xs.length
  p0 : 0 ≤ o.pc
  p1 : o.pc < xs.length
  e0 : o.err = 0 → o.pc = 0
  v0 : o.err ≠ 0 → o.v = 0
  k : o.err ≠ 0 → ∃ f, xs[o.pc.toNat]? = some f ∧ ((o.err = 113 ∧ f.op = 3) ∨ (o.err = 112 ∧ (f.op = 4 ∨ f.op = 5 ∨ f.op = 6)))
theorem next_lt (xs : List Ins) (h : rightP xs = true) (pc q : Nat) (f : Ins) (hf : xs[pc]? = some f) (hq : f.op ≠ 9 ∧ (q = pc + 1 ∨ q < xs.length)) : q < xs.length := by
  have hpc := (List.getElem?_eq_some_iff.1 hf).1
  rcases hq.2 with h' | h'
  · by_cases hl : pc + 1 = xs.length
    · exact absurd (last_end xs h f (by rw [← hf]; congr 1; omega)) hq.1
    · omega
  · exact h'
theorem run_ok (pk : List Int) (xs : List Ins) (h : rightP xs = true) (hio : ∀ f ∈ xs, InsOk f) (hpb : Bytes pk) : ∀ (n : Nat) (r st : List Int) (pc steps : Nat), MaOk r st → pc < xs.length → n + steps = xs.length → steps ≤ pc → OutOk xs (runP pk xs n r st pc steps)
  | 0, r, st, pc, steps, _, h1, h2, h3 => by omega
  | n + 1, r, st, pc, steps, ho, h1, h2, h3 => by
    have hf : xs[pc]? = some xs[pc] := List.getElem?_eq_getElem h1
    generalize xs[pc] = f at hf
    have hone := right_one xs h pc f hf
    cases hs : stepP pk f r st ((pc : Int) + 1) with
    | err x =>
      rw [run_err pk xs n r st pc steps f x hf hs]
      exact ⟨by simp; omega, by simp; omega, by simp, by simp; omega, fun e => absurd e (step_err pk f r st _ x hs), fun _ => rfl, fun _ => ⟨f, by simpa using hf, err_is pk f r st _ _ x _ hs hone⟩⟩
    | go r' st' pc' dn' =>
      rw [run_go pk xs n r st pc steps f r' st' pc' dn' hf hs]
      obtain ⟨hok', q, rfl, hq1, hqt, hqf⟩ := step_go pk f r st pc xs.length r' st' pc' dn' hs hone (hio f (List.mem_of_getElem? hf)) ho hpb
      cases dn' with
      | true => exact ⟨by simp; omega, by simp; omega, by simp, by simp; omega, fun _ => rfl, fun e => absurd rfl e, fun e => absurd rfl e⟩
      | false =>
        have := run_ok pk xs h hio hpb n r' st' q (steps + 1) hok' (next_lt xs h pc q f hf (hqf rfl)) (by omega) (by omega)
        simpa using this
theorem run_ext (pk : List Int) (xs ys : List Ins) (h : rightP xs = true) (hio : ∀ f ∈ xs, InsOk f) (hpb : Bytes pk) : ∀ (n m : Nat) (r st : List Int) (pc steps : Nat), MaOk r st → pc < xs.length → n + steps = xs.length → steps ≤ pc → n ≤ m → runP pk (xs ++ ys) m r st pc steps = runP pk xs n r st pc steps
  | 0, m, r, st, pc, steps, _, h1, h2, h3, _ => by omega
  | n + 1, 0, r, st, pc, steps, _, _, _, _, h4 => by omega
  | n + 1, m + 1, r, st, pc, steps, ho, h1, h2, h3, h4 => by
    have hf : xs[pc]? = some xs[pc] := List.getElem?_eq_getElem h1
    generalize xs[pc] = f at hf
    have hf2 : (xs ++ ys)[pc]? = some f := by rw [List.getElem?_append_left h1, hf]
    have hone := right_one xs h pc f hf
    cases hs : stepP pk f r st ((pc : Int) + 1) with
    | err x => rw [run_err pk xs n r st pc steps f x hf hs, run_err pk (xs ++ ys) m r st pc steps f x hf2 hs]
    | go r' st' pc' dn' =>
      rw [run_go pk xs n r st pc steps f r' st' pc' dn' hf hs, run_go pk (xs ++ ys) m r st pc steps f r' st' pc' dn' hf2 hs]
      obtain ⟨hok', q, rfl, hq1, hqt, hqf⟩ := step_go pk f r st pc xs.length r' st' pc' dn' hs hone (hio f (List.mem_of_getElem? hf)) ho hpb
      cases dn' with
      | true => rfl
      | false =>
        have := run_ext pk xs ys h hio hpb n m r' st' q (steps + 1) hok' (next_lt xs h pc q f hf (hqf rfl)) (by omega) (by omega) (by omega)
        simpa using this
theorem do_ok (pk : List Int) (xs : List Ins) (h : rightP xs = true) (hio : ∀ f ∈ xs, InsOk f) (hpb : Bytes pk) (hl : pk.length ≤ 65535) : OutOk xs (doP pk xs) := by
  unfold doP
  rw [if_pos h, if_neg (by omega)]
  exact run_ok pk xs h hio hpb xs.length _ _ 0 0 (ok0 _ hl) (by have := right_len xs h; omega) (by omega) (by omega)
theorem do_ext (pk : List Int) (xs ys : List Ins) (h : rightP xs = true) (h2 : rightP (xs ++ ys) = true) (hio : ∀ f ∈ xs, InsOk f) (hpb : Bytes pk) (hl : pk.length ≤ 65535) : doP pk (xs ++ ys) = doP pk xs := by
  unfold doP
  rw [if_pos h, if_pos h2, if_neg (by omega), if_neg (by omega)]
  exact run_ext pk xs ys h hio hpb xs.length _ _ _ 0 0 (ok0 _ hl) (by have := right_len xs h; omega) (by omega) (by omega) (by simp)
end Go.Proofs.Ytbfegghkipoppaa
