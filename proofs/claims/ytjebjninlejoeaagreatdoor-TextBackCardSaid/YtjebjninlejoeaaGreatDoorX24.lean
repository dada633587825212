/- text, the walk: the parser's state. -/
import Derived.Test.YtjebjninlejoeaaGreatDoorX23
namespace Go.Proofs.YtjebjninlejoeaaGreatDoor
open Go.RowKit Go.Maps Go.ChangeMaps
set_option linter.unusedVariables false
set_option linter.unusedSimpArgs false
set_option linter.unusedSectionVars false
set_option maxRecDepth 100000

/-- A row of one's own is as it was, where its block is. -/
theorem own_keep {w w' : World} {base size n : Nat} {e : TypeId} {v : Value} {xs : List Value} (h : w.ownsRow base e size v n xs) (hk : ∀ g, v.ownBlock = some g → w'.heap[g]? = w.heap[g]?) : w'.ownsRow base e size v n xs := by
  refine ⟨h.1, ?_⟩
  rcases h.2 with h0 | ⟨g, cap, cur, hv, hb, hc, r⟩
  · exact .inl h0
  · exact .inr ⟨g, cap, cur, hv, hb, (hk g (by rw [hv]; rfl)).trans hc, r⟩
def outC (l : List IV) : List Value := l.flatMap ivV
def jmC (l : List Jmp) : List Value := l.flatMap fun j => [.int .i64 j.at_, .int .i64 j.line, .string ⟨j.to.toArray⟩]
theorem outC_len (l : List IV) : (outC l).length = l.length * 8 := by
  induction l with
  | nil => rfl
  | cons i l ih => simp only [outC, List.flatMap_cons, List.length_append, List.length_cons] at ih ⊢; rw [ih]; simp [ivV]; omega
theorem jmC_len (l : List Jmp) : (jmC l).length = l.length * 3 := by
  induction l with
  | nil => rfl
  | cons i l ih => simp only [jmC, List.flatMap_cons, List.length_append, List.length_cons] at ih ⊢; rw [ih]; simp; omega
theorem outC_push (l : List IV) (i : IV) : outC (l ++ [i]) = outC l ++ ivV i := by simp [outC]
theorem jmC_push (l : List Jmp) (j : Jmp) : jmC (l ++ [j]) = jmC l ++ [.int .i64 j.at_, .int .i64 j.line, .string ⟨j.to.toArray⟩] := by simp [jmC]
theorem hasM_push (l : List (Nm × Nat)) (a : Nm) (k : Nat) (h : hasM l a = none) (s : Nm) : hasM (l ++ [(a, k)]) s = if s = a then some k else hasM l s := by
  unfold hasM at h ⊢
  rw [List.find?_append]
  by_cases hs : s = a
  · subst hs
    have h0 : l.find? (fun p => decide (p.1 = s)) = none := by simpa using h
    rw [h0]; simp
  · rw [if_neg hs]
    have : [(a, k)].find? (fun p => decide (p.1 = s)) = none := by simp [show ¬ a = s from fun e => hs e.symm]
    rw [this, Option.or_none]
/-- The parser in block P at a plain state; its own blocks are of B and above. -/
structure PsAt (w : World) (B P Wm M : Nat) (st : PS) (vo vj : Value) : Prop where
  bk : Bk w P 58 [vo, .map (some Wm), .map (some M), vj]
  out : w.ownsRow B 40 8 vo st.out.length (outC st.out)
  jumps : w.ownsRow B 129 3 vj st.jumps.length (jmC st.jumps)
  ways : Mf w Wm (fun s => (wayP s).map kV)
  marks : Mf w M (fun s => (hasM st.marks s).map fun k => .int .i64 (k : Nat))
  lo : B ≤ P ∧ B ≤ Wm ∧ B ≤ M
  ne : P ≠ Wm ∧ P ≠ M ∧ Wm ≠ M
  no : ∀ g, vo.ownBlock = some g → g ≠ P ∧ g ≠ Wm ∧ g ≠ M ∧ vj.ownBlock ≠ some g
  nj : ∀ g, vj.ownBlock = some g → g ≠ P ∧ g ≠ Wm ∧ g ≠ M
/-- The blocks that are the parser's. -/
def Own (P Wm M : Nat) (vo vj : Value) (b : Nat) : Prop := b = P ∨ b = Wm ∨ b = M ∨ vo.ownBlock = some b ∨ vj.ownBlock = some b
theorem PsAt.keep {w w' : World} {B P Wm M : Nat} {st : PS} {vo vj : Value} (h : PsAt w B P Wm M st vo vj) (hk : ∀ b, b < w.heap.size → Own P Wm M vo vj b → w'.heap[b]? = w.heap[b]?) : PsAt w' B P Wm M st vo vj :=
  ⟨(hk P h.bk.lt (.inl rfl)).trans h.bk, own_keep h.out fun g hg => hk g (h.out.lt g hg).2 (.inr (.inr (.inr (.inl hg)))), own_keep h.jumps fun g hg => hk g (h.jumps.lt g hg).2 (.inr (.inr (.inr (.inr hg)))), h.ways.keep (hk Wm h.ways.lt (.inr (.inl rfl))), h.marks.keep (hk M h.marks.lt (.inr (.inr (.inl rfl)))), h.lo, h.ne, h.no, h.nj⟩
theorem PsAt.below {w w' : World} {B P Wm M : Nat} {st : PS} {vo vj : Value} (h : PsAt w B P Wm M st vo vj) (hb : Below w.heap.size w w') : PsAt w' B P Wm M st vo vj := h.keep fun b hl _ => hb.block b hl
theorem PsAt.lt {w : World} {B P Wm M : Nat} {st : PS} {vo vj : Value} (h : PsAt w B P Wm M st vo vj) {b : Nat} (hb : Own P Wm M vo vj b) : B ≤ b ∧ b < w.heap.size := by
  rcases hb with rfl | rfl | rfl | hb | hb
  · exact ⟨h.lo.1, h.bk.lt⟩
  · exact ⟨h.lo.2.1, h.ways.lt⟩
  · exact ⟨h.lo.2.2, h.marks.lt⟩
  · exact h.out.lt b hb
  · exact h.jumps.lt b hb
/-- A mark is set. -/
theorem PsAt.marked {w w' : World} {B P Wm M : Nat} {st : PS} {vo vj : Value} (h : PsAt w B P Wm M st vo vj) {a : Nm} (hn : hasM st.marks a = none) (k : Nat) (ht : MapTo M w w') (hm : Mf w' M (upF (fun s => (hasM st.marks s).map fun k => .int .i64 (k : Nat)) a (.int .i64 (k : Nat)))) : PsAt w' B P Wm M { st with marks := st.marks ++ [(a, k)] } vo vj := by
  obtain ⟨n1, n2, n3⟩ := h.ne
  refine ⟨(ht.far P n2).trans h.bk, own_keep h.out fun g hg => ht.far g (h.no g hg).2.2.1, own_keep h.jumps fun g hg => ht.far g (h.nj g hg).2.2, h.ways.keep (ht.far Wm n3), ?_, h.lo, h.ne, h.no, h.nj⟩
  have e : (fun s => (hasM (st.marks ++ [(a, k)]) s).map fun k => Value.int .i64 (k : Nat)) = upF (fun s => (hasM st.marks s).map fun k => .int .i64 (k : Nat)) a (.int .i64 (k : Nat)) := by
    funext s
    rw [hasM_push _ _ _ hn, upF]
    split <;> rfl
  rw [show ({ st with marks := st.marks ++ [(a, k)] } : PS).marks = st.marks ++ [(a, k)] from rfl, e]
  exact hm
end Go.Proofs.YtjebjninlejoeaaGreatDoor

