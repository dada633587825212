/- disk: entries of a map, in plain terms. -/
import Derived.Test.YtcmbeolicopicaaDSafe1
namespace Go.Proofs.Ytcmbeolicopicaa
open Go.RowKit Go.Maps Go.ChangeMaps
set_option linter.unusedVariables false
set_option linter.unusedSectionVars false
set_option linter.unusedSimpArgs false
set_option maxRecDepth 100000

theorem mpF_push {L : List (Nm × Value)} {s : Nm} (h : mpF L s = none) (v : Value) (t : Nm) : mpF (L ++ [(s, v)]) t = if t = s then some (s, v) else mpF L t := by
  unfold mpF at *
  rw [List.find?_append]
  by_cases ht : t = s
  · subst ht; rw [h]; simp
  · rw [if_neg ht, List.find?_cons_of_neg (by simpa using fun e => ht e.symm)]
    simp
theorem mpF_at {L : List (Nm × Value)} (hd : L.Pairwise fun a b => a.1 ≠ b.1) {j : Nat} {p : Nm × Value} (hj : L[j]? = some p) : mpF L p.1 = some p := by
  cases e : mpF L p.1 with
  | none =>
    have := List.find?_eq_none.1 e p (List.mem_of_getElem? hj)
    simp at this
  | some q =>
    have hq := List.mem_of_find?_eq_some e
    have hs : q.1 = p.1 := by have := List.find?_some e; simpa using this
    obtain ⟨i, hi⟩ := List.mem_iff_getElem?.1 hq
    obtain ⟨i1, rfl⟩ := List.getElem?_eq_some_iff.1 hi
    obtain ⟨j1, rfl⟩ := List.getElem?_eq_some_iff.1 hj
    rcases Nat.lt_trichotomy i j with r | r | r
    · exact absurd hs (List.pairwise_iff_getElem.1 hd i j i1 j1 r)
    · subst r; rfl
    · exact absurd hs.symm (List.pairwise_iff_getElem.1 hd j i j1 i1 r)
end Go.Proofs.Ytcmbeolicopicaa

