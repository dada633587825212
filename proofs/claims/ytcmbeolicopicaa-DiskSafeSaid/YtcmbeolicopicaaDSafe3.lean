/- disk: DiskSafe's state through Append. -/
import Derived.Test.YtcmbeolicopicaaDSafe2
namespace Go.Proofs.Ytcmbeolicopicaa
open Go.RowKit Go.Maps Go.ChangeMaps
set_option linter.unusedVariables false
set_option linter.unusedSectionVars false
set_option linter.unusedSimpArgs false
set_option maxRecDepth 100000

theorem mpF_set {L : List (Nm × Value)} (hd : L.Pairwise fun a b => a.1 ≠ b.1) {j : Nat} {s : Nm} {u : Value} (hj : L[j]? = some (s, u)) (v : Value) (t : Nm) : mpF (L.set j (s, v)) t = if t = s then some (s, v) else mpF L t := by
  have hlt := (List.getElem?_eq_some_iff.1 hj).1
  have hd2 : (L.set j (s, v)).Pairwise fun a b => a.1 ≠ b.1 := by
    have h1 : (L.set j (s, v)).map Prod.fst = L.map Prod.fst := by
      refine List.ext_getElem? fun i => ?_
      rw [List.getElem?_map, List.getElem?_map, List.getElem?_set]
      by_cases hi : j = i
      · subst hi; rw [if_pos rfl, if_pos hlt, hj]; rfl
      · rw [if_neg hi]
    have h2 : (L.map Prod.fst).Pairwise (· ≠ ·) := List.pairwise_map.2 hd
    rw [← h1] at h2
    exact List.pairwise_map.1 h2
  have hset : (L.set j (s, v))[j]? = some (s, v) := by rw [List.getElem?_set, if_pos rfl, if_pos hlt]
  by_cases ht : t = s
  · rw [if_pos ht, ht]; exact mpF_at hd2 hset
  · rw [if_neg ht]
    cases e : mpF L t with
    | none =>
      refine List.find?_eq_none.2 fun p hp => ?_
      rcases List.mem_or_eq_of_mem_set hp with hp | rfl
      · exact List.find?_eq_none.1 e p hp
      · simpa using fun q => ht q.symm
    | some p =>
      have hp := List.mem_of_find?_eq_some e
      have hs : p.1 = t := by have := List.find?_some e; simpa using this
      obtain ⟨i, hi⟩ := List.mem_iff_getElem?.1 hp
      have hne : j ≠ i := by
        rintro rfl
        rw [hj] at hi
        injection hi with hi
        exact ht (by rw [← hs, ← hi])
      have : (L.set j (s, v))[i]? = some p := by rw [List.getElem?_set, if_neg hne]; exact hi
      rw [← hs]
      exact mpF_at hd2 this
end Go.Proofs.Ytcmbeolicopicaa

