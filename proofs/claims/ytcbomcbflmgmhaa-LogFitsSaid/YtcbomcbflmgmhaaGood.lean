/- What holds of a log behind a Fit that was taken: plain. -/
import Derived.Test.YtcbomcbflmgmhaaFitR
namespace Go.Proofs.Ytcbomcbflmgmhaa
open Go.RowKit
set_option linter.unusedVariables false

structure FitGood (es ns : List En) (n : Nat) (t : Int) (chg : Nat) (es' : List En) : Prop where
  len : n + ns.length ≤ es'.length
  same : chg = 0 → es' = es
  short : chg ≠ 0 → es'.length = n + ns.length
  bound : es'.length ≤ es.length + ns.length
  ahead : ∀ j, chg ≠ 0 → j + 1 < chg → j < es.length ∧ es'[j]? = es[j]?
  after : chg ≠ 0 → n < chg
  le : chg ≤ n + ns.length
  fits : ∀ j, j < ns.length → ∃ x y, es'[n + j]? = some x ∧ ns[j]? = some y ∧ x.term = y.term ∧ (chg ≠ 0 → chg ≤ n + j + 1 → x = y)
  again : ∀ last b c es2, FitP es' ns n t last b c es2 → last = n + ns.length ∧ b = 0 ∧ c = true ∧ es2 = es'
theorem fit_again {es' ns : List En} {n : Nat} {t : Int} (h1 : hasAt es' n = true) (h2 : termAt es' n = t) (h3 : ∀ j, j < ns.length → FitJ es' ns n j) (last b : Int) (c : Bool) (es2 : List En) (h : FitP es' ns n t last b c es2) : last = n + ns.length ∧ b = 0 ∧ c = true ∧ es2 = es' := by
  rcases h with ⟨h, _⟩ | ⟨_, _, rfl, rfl, (⟨hall, rfl, rfl⟩ | ⟨k, hk, hj, hn, hle, rfl, rfl⟩)⟩
  · exact absurd ⟨h1, h2⟩ h
  · exact ⟨rfl, rfl, rfl, rfl⟩
  · exact absurd (h3 k hk) hn
theorem fit_good {es ns es' : List En} {n : Nat} {t last chg : Int} {ok : Bool} (h : FitP es ns n t last chg ok es') (h1 : hasAt es n = true) (h2 : termAt es n = t) : ∃ c : Nat, chg = c ∧ last = n + ns.length ∧ ok = true ∧ FitGood es ns n t c es' := by
  have hn : n ≤ es.length := by unfold hasAt at h1; simp at h1; omega
  rcases h with ⟨h, _⟩ | ⟨_, _, rfl, rfl, (⟨hall, rfl, rfl⟩ | ⟨k, hk, hj, hno, hle, rfl, rfl⟩)⟩
  · exact absurd ⟨h1, h2⟩ h
  · have hl := fit_le hall hn
    refine ⟨0, rfl, rfl, rfl, ⟨hl, fun _ => rfl, fun h => absurd rfl h, by omega, fun j h => absurd rfl h, fun h => absurd rfl h, by omega, fun j hj => ?_, fit_again h1 h2 hall⟩⟩
    obtain ⟨x, y, e1, e2, e3⟩ := hall j hj
    exact ⟨x, y, e1, e2, e3, fun h => absurd rfl h⟩
  · simp only [Int.toNat_natCast] at hj hno hle
    have hlt : (es.take (n + k)).length = n + k := by simp; omega
    have hget1 : ∀ j, j < n + k → (es.take (n + k) ++ ns.drop k)[j]? = es[j]? := fun j hj' => by
      rw [List.getElem?_append_left (by omega), List.getElem?_take, if_pos hj']
    have hget2 : ∀ j, k ≤ j → (es.take (n + k) ++ ns.drop k)[n + j]? = ns[j]? := fun j hj' => by
      rw [List.getElem?_append_right (by omega), hlt, List.getElem?_drop, show k + (n + j - (n + k)) = j by omega]
    have hfj : ∀ j, j < ns.length → ∃ x y, (es.take (n + k) ++ ns.drop k)[n + j]? = some x ∧ ns[j]? = some y ∧ x.term = y.term ∧ (n + 1 + k ≤ n + j + 1 → x = y) := by
      intro j hj'
      rcases Nat.lt_or_ge j k with h | h
      · obtain ⟨x, y, e1, e2, e3⟩ := hj j h
        exact ⟨x, y, by rw [hget1 _ (by omega)]; exact e1, e2, e3, fun h => by omega⟩
      · exact ⟨ns[j], ns[j], by rw [hget2 j h]; exact List.getElem?_eq_getElem hj', List.getElem?_eq_getElem hj', rfl, fun _ => rfl⟩
    have hlen : (es.take (n + k) ++ ns.drop k).length = n + ns.length := by simp; omega
    refine ⟨n + 1 + k, by simp, rfl, rfl, ⟨by simp only [Int.toNat_natCast]; omega, fun h => by omega, fun _ => by simp only [Int.toNat_natCast]; exact hlen, by simp only [Int.toNat_natCast]; omega, fun j _ hj' => ⟨by omega, by simp only [Int.toNat_natCast]; exact hget1 j (by omega)⟩, fun _ => by omega, by omega, fun j hj' => ?_, ?_⟩⟩
    · obtain ⟨x, y, e1, e2, e3, e4⟩ := hfj j hj'
      simp only [Int.toNat_natCast]
      exact ⟨x, y, e1, e2, e3, fun _ h => e4 h⟩
    · simp only [Int.toNat_natCast]
      refine fit_again ?_ ?_ (fun j hj' => ?_)
      · unfold hasAt; simp; omega
      · rw [← h2]
        unfold termAt
        split
        · rename_i h5
          rw [hget1 _ (by omega)]
        · rfl
      · obtain ⟨x, y, e1, e2, e3, _⟩ := hfj j hj'
        exact ⟨x, y, e1, e2, e3⟩
end Go.Proofs.Ytcbomcbflmgmhaa
