/- What Fit tells, as a function. -/
import Derived.Test.YtcbomcbflmgmhaaGreatFit
namespace Go.Proofs.YtcbomcbflmgmhaaGreat
open Go.RowKit
set_option linter.unusedVariables false
set_option maxRecDepth 100000

/-- How many entries fit, from the first on. -/
def fitK : List En → List En → Nat
  | x :: xs, y :: ys => if x.term = y.term then fitK xs ys + 1 else 0
  | _, _ => 0
theorem fitK_le : ∀ xs ys, fitK xs ys ≤ ys.length ∧ fitK xs ys ≤ xs.length
  | x :: xs, y :: ys => by
    have := fitK_le xs ys
    simp only [fitK]
    split <;> simp <;> omega
  | [], [] => by simp [fitK]
  | [], y :: ys => by simp [fitK]
  | x :: xs, [] => by simp [fitK]
theorem fitK_lt : ∀ (xs ys : List En) (j : Nat), j < fitK xs ys → ∃ x y, xs[j]? = some x ∧ ys[j]? = some y ∧ x.term = y.term
  | x :: xs, y :: ys, j, h => by
    simp only [fitK] at h
    split at h
    · rename_i e
      cases j with
      | zero => exact ⟨x, y, rfl, rfl, e⟩
      | succ j => exact fitK_lt xs ys j (by omega)
    · omega
  | [], [], j, h => by simp [fitK] at h
  | [], y :: ys, j, h => by simp [fitK] at h
  | x :: xs, [], j, h => by simp [fitK] at h
theorem fitK_at : ∀ (xs ys : List En) (x y : En), xs[fitK xs ys]? = some x → ys[fitK xs ys]? = some y → x.term ≠ y.term
  | x :: xs, y :: ys, u, v, h1, h2, e => by
    simp only [fitK] at h1 h2
    split at h1
    · rename_i e'
      rw [if_pos e'] at h2
      exact fitK_at xs ys u v (by simpa using h1) (by simpa using h2) e
    · rename_i e'
      rw [if_neg e'] at h2
      simp at h1 h2
      subst h1 h2
      exact e' e
  | [], [], _, _, h1, _, _ => by simp at h1
  | [], y :: ys, _, _, h1, _, _ => by simp at h1
  | x :: xs, [], _, _, _, h2, _ => by simp at h2
theorem fitK_j {es ns : List En} {n j : Nat} (h : j < fitK (es.drop n) ns) : FitJ es ns n j := by
  obtain ⟨x, y, h1, h2, h3⟩ := fitK_lt _ _ _ h
  rw [List.getElem?_drop] at h1
  exact ⟨x, y, h1, h2, h3⟩
theorem fitK_no {es ns : List En} {n : Nat} : ¬ FitJ es ns n (fitK (es.drop n) ns) := by
  rintro ⟨x, y, h1, h2, h3⟩
  exact fitK_at (es.drop n) ns x y (by rw [List.getElem?_drop]; exact h1) h2 h3
/-- What Fit tells and leaves. -/
def fitR (es ns : List En) (i t : Int) : Int × Int × Bool × List En :=
  if hasAt es i = true ∧ termAt es i = t then
    if fitK (es.drop i.toNat) ns = ns.length then (i + ns.length, 0, true, es)
    else (i + ns.length, i + 1 + fitK (es.drop i.toNat) ns, true, es.take (i.toNat + fitK (es.drop i.toNat) ns) ++ ns.drop (fitK (es.drop i.toNat) ns))
  else (0, 0, false, es)
theorem FitP.eq {es ns es' : List En} {i t last chg : Int} {ok : Bool} (h : FitP es ns i t last chg ok es') : (last, chg, ok, es') = fitR es ns i t := by
  unfold fitR
  rcases h with ⟨h, rfl, rfl, rfl, rfl⟩ | ⟨h1, h2, rfl, rfl, (⟨hall, rfl, rfl⟩ | ⟨k, hk, hj, hn, hle, rfl, rfl⟩)⟩
  · rw [if_neg h]
  · rw [if_pos ⟨h1, h2⟩]
    have h3 := (fitK_le (es'.drop i.toNat) ns).1
    have h4 : fitK (es'.drop i.toNat) ns = ns.length := by
      by_cases h5 : fitK (es'.drop i.toNat) ns < ns.length
      · exact absurd (hall _ h5) fitK_no
      · omega
    rw [if_pos h4]
  · rw [if_pos ⟨h1, h2⟩]
    have h4 : fitK (es.drop i.toNat) ns = k := by
      rcases Nat.lt_trichotomy (fitK (es.drop i.toNat) ns) k with h | h | h
      · exact absurd (hj _ h) fitK_no
      · exact h
      · exact absurd (fitK_j h) hn
    rw [h4, if_neg (by omega)]
end Go.Proofs.YtcbomcbflmgmhaaGreat
