/- text, the plain law: what is parsed is right; at which line a fault is. -/
import Derived.Test.YtjebjninlejoeaaGreatDoorP5
namespace Go.Proofs.YtjebjninlejoeaaGreatDoor
open Go.Lib
set_option linter.unusedVariables false
set_option linter.unusedSimpArgs false

/-- Of a jump's kind. -/
def JmpOp (i : IV) : Prop := i.op = 16 ∨ (17 ≤ i.op ∧ i.op ≤ 27)
theorem must_some {x : Nm} {l r : List Nm} (h : mustP x l = some r) : l = x :: r := by
  cases l with
  | nil => cases h
  | cons s t =>
    simp only [mustP] at h
    split at h
    · next e => injection h with h; rw [e, h]
    · cases h
theorem sec_op {i i' : IV} {l r : List Nm} (h : secT i l = some (i', r)) : i'.op = i.op ∧ i'.narrow = i.narrow ∧ i'.size = i.size := by
  cases l with
  | nil => cases h
  | cons s t =>
    simp only [secT] at h
    split at h
    · injection h with h; injection h with h h2; rw [← h]; exact ⟨rfl, rfl, rfl⟩
    · split at h
      · obtain ⟨p, _, hp⟩ := Option.map_eq_some_iff.1 h
        injection hp with h h2; rw [← h]; exact ⟨rfl, rfl, rfl⟩
      · obtain ⟨p, _, hp⟩ := Option.map_eq_some_iff.1 h
        injection hp with h h2; rw [← h]; exact ⟨rfl, rfl, rfl⟩
theorem to_op {i i' : IV} {to : Nm} {l r : List Nm} (h : toT i l = some (i', to, r)) : i'.op = i.op := by
  cases l with
  | nil => cases h
  | cons s t =>
    simp only [toT] at h
    split at h
    · injection h with h; injection h with h h2; rw [← h]
    · obtain ⟨p, _, hp⟩ := Option.map_eq_some_iff.1 h
      injection hp with h h2; rw [← h]
theorem alu_op {i i' : IV} {l r : List Nm} (h : aluT i l = some (i', r)) : i'.op = i.op := by
  unfold aluT at h
  obtain ⟨p, _, h⟩ := Option.bind_eq_some_iff.1 h
  obtain ⟨q, _, h⟩ := Option.bind_eq_some_iff.1 h
  exact (sec_op h).1
theorem way_kind {s : Nm} {i : IV} {k : Kind} (h : wayP s = some (i, k)) : (k = .far → i.op = 16) ∧ (k = .ask → 17 ≤ i.op ∧ i.op ≤ 27) := by
  have hw : ∀ p ∈ ways, (p.2.2 = .far → p.2.1.op = 16) ∧ (p.2.2 = .ask → 17 ≤ p.2.1.op ∧ p.2.1.op ≤ 27) := by decide +kernel
  unfold wayP at h
  obtain ⟨p, hp, e⟩ := Option.map_eq_some_iff.1 h
  have := hw p (List.mem_of_find?_eq_some hp)
  rw [e] at this
  exact this
theorem inst_to {t : List Nm} {i : IV} {to : Nm} (h : instP t = some (i, to)) (h0 : to ≠ []) : JmpOp i := by
  cases t with
  | nil => cases h
  | cons s t =>
    simp only [instP] at h
    split at h
    · cases h
    · next i0 k hk =>
      have hw := way_kind hk
      split at h
      · next i' to' hr =>
        injection h with h
        injection h with h1 h2
        subst h1 h2
        cases k with
        | alu => simp only [restT] at hr; obtain ⟨p, _, e⟩ := Option.map_eq_some_iff.1 hr; injection e with _ e; injection e with e _; exact absurd e.symm h0
        | neg => simp only [restT] at hr; obtain ⟨p, _, e⟩ := Option.map_eq_some_iff.1 hr; injection e with _ e; injection e with e _; exact absurd e.symm h0
        | load => simp only [restT] at hr; obtain ⟨p, _, hr⟩ := Option.bind_eq_some_iff.1 hr; obtain ⟨q, _, hr⟩ := Option.bind_eq_some_iff.1 hr; obtain ⟨x, _, e⟩ := Option.map_eq_some_iff.1 hr; injection e with _ e; injection e with e _; exact absurd e.symm h0
        | put => simp only [restT] at hr; obtain ⟨p, _, hr⟩ := Option.bind_eq_some_iff.1 hr; obtain ⟨q, _, hr⟩ := Option.bind_eq_some_iff.1 hr; obtain ⟨x, _, e⟩ := Option.map_eq_some_iff.1 hr; injection e with _ e; injection e with e _; exact absurd e.symm h0
        | exit => simp only [restT] at hr; injection hr with e; injection e with _ e; injection e with e _; exact absurd e.symm h0
        | far => simp only [restT] at hr; exact .inl ((to_op hr).trans (hw.1 rfl))
        | ask =>
          simp only [restT] at hr
          obtain ⟨p, hp, hr⟩ := Option.bind_eq_some_iff.1 hr
          obtain ⟨q, _, hr⟩ := Option.bind_eq_some_iff.1 hr
          have e : i'.op = i0.op := (to_op hr).trans (alu_op (i' := p.1) (r := p.2) hp)
          exact .inr (by rw [e]; exact hw.2 rfl)
      · cases h
/-- What holds of what has been read. -/
structure PI (st : PS) : Prop where
  right : ∀ i ∈ st.out, rightP i = true
  len : st.out.length ≤ 4096
  jmp : ∀ j ∈ st.jumps, ∃ i, st.out[j.at_]? = some i ∧ JmpOp i
theorem step_inv {st st' : PS} {n : Nat} {s : List UInt8} (h : PI st) (e : stepP st n s = .ok st') : PI st' ∧ (∀ j ∈ st'.jumps, j ∈ st.jumps ∨ j.line = n) := by
  unfold stepP at e
  split at e
  · cases e
  · injection e with e; subst e; exact ⟨h, fun j hj => .inl hj⟩
  · split at e
    · split at e
      · cases e
      · injection e with e; subst e; exact ⟨⟨h.right, h.len, h.jmp⟩, fun j hj => .inl hj⟩
    · split at e
      · cases e
      · next i to hi =>
        split at e
        · next hr =>
          split at e
          · cases e
          · next hl =>
            injection e with e
            subst e
            have old : ∀ j ∈ st.jumps, ∃ i', (st.out ++ [i])[j.at_]? = some i' ∧ JmpOp i' := by
              intro j hj
              obtain ⟨i', h1, h2⟩ := h.jmp j hj
              exact ⟨i', by rw [List.getElem?_append_left (List.getElem?_eq_some_iff.1 h1).1]; exact h1, h2⟩
            refine ⟨⟨fun j hj => ?_, ?_, ?_⟩, ?_⟩
            · rcases List.mem_append.1 hj with hj | hj
              · exact h.right j hj
              · simp at hj; rw [hj]; exact hr
            · have := h.len
              simp; omega
            · simp only
              split
              · exact old
              · next h0 =>
                intro j hj
                rcases List.mem_append.1 hj with hj | hj
                · exact old j hj
                · simp at hj
                  subst hj
                  exact ⟨i, by simp, inst_to hi h0⟩
            · simp only
              intro j hj
              split at hj
              · exact .inl hj
              · rcases List.mem_append.1 hj with hj | hj
                · exact .inl hj
                · simp at hj; subst hj; exact .inr rfl
        · cases e
theorem run_inv : ∀ (ss : List (List UInt8)) (st st' : PS) (n : Nat), PI st → runP st n ss = .ok st' → (∀ j ∈ st.jumps, j.line < n) → PI st' ∧ (∀ j ∈ st'.jumps, j.line < n + ss.length)
  | [], st, st', n, h, e, hj => by
    simp only [runP] at e
    injection e with e
    subst e
    exact ⟨h, by simpa using hj⟩
  | s :: ss, st, st', n, h, e, hj => by
    simp only [runP] at e
    split at e
    · cases e
    · next st1 e1 =>
      obtain ⟨h1, h2⟩ := step_inv h e1
      obtain ⟨a, b⟩ := run_inv ss st1 st' (n + 1) h1 e (fun j q => (h2 j q).elim (fun q => Nat.lt_succ_of_lt (hj j q)) (fun q => by omega))
      exact ⟨a, fun j q => by have := b j q; simp; omega⟩
theorem right_off {i : IV} {o : Int} (h : rightP i = true) (hj : JmpOp i) (ho : inI o (-32768) 32767 = true) : rightP { i with off := o } = true := by
  rcases hj with hj | ⟨h1, h2⟩
  · unfold rightP at h ⊢
    simp only [hj, Int.reduceEq, Int.reduceLE, and_false, if_false, if_true, Bool.and_eq_true, decide_eq_true_eq] at h ⊢
    refine ⟨ho, ?_⟩
    obtain ⟨_, h⟩ := h
    cases i
    simp_all [iv0]
  · unfold rightP at h ⊢
    simp only [show ¬ (1 ≤ i.op ∧ i.op ≤ 12) by omega, show i.op ≠ 13 by omega, show i.op ≠ 14 by omega, show i.op ≠ 15 by omega, show i.op ≠ 16 by omega, show (17 ≤ i.op ∧ i.op ≤ 27) from ⟨h1, h2⟩, if_false, and_self, if_true, Bool.and_eq_true, decide_eq_true_eq] at h ⊢
    exact ⟨⟨⟨h.1.1.1, ho⟩, h.1.2⟩, h.2⟩
theorem land_inv {marks : List (Nm × Nat)} : ∀ (js : List Jmp) (out l : List IV), landP marks out js = .ok l → (∀ i ∈ out, rightP i = true) → (∀ j ∈ js, ∃ i, out[j.at_]? = some i ∧ JmpOp i) → (∀ i ∈ l, rightP i = true) ∧ l.length = out.length
  | [], out, l, e, h, _ => by
    simp only [landP] at e
    injection e with e
    subst e
    exact ⟨h, rfl⟩
  | j :: js, out, l, e, h, hj => by
    simp only [landP] at e
    split at e
    · cases e
    · next at_ _ =>
      split at e
      · next ho =>
        obtain ⟨i, hi, hk⟩ := hj j (List.mem_cons_self ..)
        obtain ⟨a, b⟩ := land_inv js _ l e (fun x hx => by
          obtain ⟨k, hk', ex⟩ := List.mem_iff_getElem.1 hx
          rw [List.getElem_modify] at ex
          rw [List.length_modify] at hk'
          split at ex
          · next e1 =>
            subst e1
            have e2 : out[j.at_] = i := by rw [List.getElem?_eq_getElem hk'] at hi; exact Option.some.inj hi
            rw [← ex, e2]
            exact right_off (h i (e2 ▸ List.getElem_mem hk')) hk ho
          · rw [← ex]; exact h _ (List.getElem_mem hk')) (fun q hq => by
          obtain ⟨i2, h1, h2⟩ := hj q (List.mem_cons_of_mem _ hq)
          rw [List.getElem?_modify, h1]
          refine ⟨_, rfl, ?_⟩
          by_cases e1 : j.at_ = q.at_
          · simp only [e1, if_true]; exact h2
          · simp only [e1, if_false]; exact h2)
        exact ⟨a, by rw [b, List.length_modify]⟩
      · cases e
theorem pi0 : PI ps0 := ⟨fun i h => (by cases h), Nat.zero_le _, fun j h => (by cases h)⟩
/-- What is parsed is right, and not too many. -/
theorem parse_right {s : List UInt8} {l : List IV} (h : parseP s = .ok l) : (∀ i ∈ l, rightP i = true) ∧ l.length ≤ 4096 := by
  unfold parseP at h
  split at h
  · cases h
  · split at h
    · cases h
    · next st e =>
      obtain ⟨h1, _⟩ := run_inv _ _ _ _ pi0 e (fun j hj => by cases hj)
      obtain ⟨a, b⟩ := land_inv _ _ _ h h1.right h1.jmp
      exact ⟨a, by rw [b]; exact h1.len⟩
theorem linesA_len : ∀ (s cur : Nm), (linesA cur s).length = s.count 10 + 1
  | [], cur => rfl
  | c :: s, cur => by
    rw [linesA]
    by_cases h : c = 10
    · rw [if_pos h, List.length_cons, linesA_len s, h]; simp
    · rw [if_neg h, linesA_len s, List.count_cons_of_ne (fun e => h e)]
theorem step_err {st : PS} {n k : Nat} {s : List UInt8} {x : Int} (e : stepP st n s = .error (x, k)) : k = n ∧ x ≠ 0 := by
  unfold stepP at e
  split at e
  · injection e with e; injection e with e1 e2; exact ⟨e2.symm, by rw [← e1]; decide⟩
  · cases e
  · split at e
    · split at e
      · injection e with e; injection e with e1 e2; exact ⟨e2.symm, by rw [← e1]; decide⟩
      · cases e
    · split at e
      · injection e with e; injection e with e1 e2; exact ⟨e2.symm, by rw [← e1]; decide⟩
      · split at e
        · split at e
          · injection e with e; injection e with e1 e2; exact ⟨e2.symm, by rw [← e1]; decide⟩
          · cases e
        · injection e with e; injection e with e1 e2; exact ⟨e2.symm, by rw [← e1]; decide⟩
theorem run_err : ∀ (ss : List (List UInt8)) (st : PS) (n k : Nat) (x : Int), runP st n ss = .error (x, k) → k < n + ss.length ∧ x ≠ 0
  | [], st, n, k, x, e => by simp only [runP] at e; cases e
  | s :: ss, st, n, k, x, e => by
    simp only [runP] at e
    split at e
    · next y e1 =>
      injection e with e
      subst e
      obtain ⟨h1, h2⟩ := step_err e1
      exact ⟨by simp; omega, h2⟩
    · next st1 e1 =>
      obtain ⟨h1, h2⟩ := run_err ss st1 (n + 1) k x e
      exact ⟨by simp; omega, h2⟩
theorem land_err {marks : List (Nm × Nat)} {N : Nat} : ∀ (js : List Jmp) (out : List IV) (k : Nat) (x : Int), landP marks out js = .error (x, k) → (∀ j ∈ js, j.line < N) → k < N ∧ x ≠ 0
  | [], out, k, x, e, _ => by simp only [landP] at e; cases e
  | j :: js, out, k, x, e, h => by
    simp only [landP] at e
    split at e
    · injection e with e; injection e with e1 e2; exact ⟨by rw [← e2]; exact h j (List.mem_cons_self ..), by rw [← e1]; decide⟩
    · split at e
      · exact land_err js _ k x e (fun q hq => h q (List.mem_cons_of_mem _ hq))
      · injection e with e; injection e with e1 e2; exact ⟨by rw [← e2]; exact h j (List.mem_cons_self ..), by rw [← e1]; decide⟩
theorem parse_err {s : List UInt8} {x : Int} {k : Nat} (h : parseP s = .error (x, k)) : k ≤ 1 + s.count 10 ∧ x ≠ 0 := by
  unfold parseP at h
  split at h
  · injection h with e; injection e with e1 e2; exact ⟨by omega, by rw [← e1]; decide⟩
  · have hl : (linesP s).length = s.count 10 + 1 := linesA_len s []
    split at h
    · next y e =>
      injection h with h
      subst h
      obtain ⟨h1, h2⟩ := run_err _ _ _ _ _ e
      exact ⟨by omega, h2⟩
    · next st e =>
      obtain ⟨_, h1⟩ := run_inv _ _ _ _ pi0 e (fun j hj => by cases hj)
      obtain ⟨a, b⟩ := land_err _ _ _ _ h h1
      exact ⟨by omega, b⟩
end Go.Proofs.YtjebjninlejoeaaGreatDoor
