/- A net's rows changed: plain laws. -/
import Derived.Test.YtenkhbiikecegaaGreatNApp
namespace Go.Proofs.YtenkhbiikecegaaGreat
open Go.RowKit Go.Maps Go.ChangeMaps
set_option linter.unusedVariables false
set_option maxRecDepth 100000

theorem pair_set {α : Type} {R : α → α → Prop} (sym : ∀ x y, R x y → R y x) {l : List α} (h : l.Pairwise R) {j : Nat} {x' : α} (hx : ∀ i y, i ≠ j → l[i]? = some y → R x' y) : (l.set j x').Pairwise R := by
  rw [List.pairwise_iff_getElem] at h ⊢
  intro i k hi hk hlt
  simp only [List.length_set] at hi hk
  rw [List.getElem_set, List.getElem_set]
  by_cases h1 : j = i
  · subst h1
    rw [if_pos rfl, if_neg (by omega)]
    exact hx k _ (by omega) (List.getElem?_eq_getElem hk)
  · rw [if_neg h1]
    by_cases h2 : j = k
    · subst h2
      rw [if_pos rfl]
      exact sym _ _ (hx i _ (by omega) (List.getElem?_eq_getElem hi))
    · rw [if_neg h2]
      exact h i k hi hk hlt
/-- Keys, no one twice. -/
def KA (rows : List NRow) : Prop := rows.Pairwise fun r s => ¬ (r.a = s.a ∧ r.b = s.b)
theorem NetAt.ka {w : World} {K : Nat → Prop} {N : Nat} {st : NSt} (h : NetAt w K N st) : KA st.rows := by
  obtain ⟨es, c, h1, h2, h3⟩ := h.map
  have h4 : es.map (·.key) = st.rows.map NRow.key := by
    have := congrArg (List.map Prod.fst) h3
    simpa [List.map_map, Function.comp_def] using this
  have h5 : (st.rows.map NRow.key).Pairwise (· ≠ ·) := by
    rw [← h4, List.pairwise_map]
    exact h2.apart
  rw [List.pairwise_map] at h5
  refine h5.imp fun hn he => hn ?_
  rw [NRow.key, NRow.key, he.1, he.2]
theorem KA.at_ {rows : List NRow} (h : KA rows) {r s : NRow} (hr : r ∈ rows) (hs : s ∈ rows) (ha : r.a = s.a) (hb : r.b = s.b) : r = s := by
  obtain ⟨i, hi⟩ := List.mem_iff_getElem?.1 hr
  obtain ⟨k, hk⟩ := List.mem_iff_getElem?.1 hs
  obtain ⟨i1, i2⟩ := List.getElem?_eq_some_iff.1 hi
  obtain ⟨k1, k2⟩ := List.getElem?_eq_some_iff.1 hk
  have hp := List.pairwise_iff_getElem.1 h
  rcases Nat.lt_trichotomy i k with q | q | q
  · exact absurd ⟨by rw [i2, k2, ha], by rw [i2, k2, hb]⟩ (hp i k i1 k1 q)
  · subst q; rw [← i2, ← k2]
  · exact absurd ⟨by rw [i2, k2, ha], by rw [i2, k2, hb]⟩ (hp k i k1 i1 q)
theorem rowOf_of {st : NSt} (h : KA st.rows) {r : NRow} (hr : r ∈ st.rows) : rowOf st r.a r.b = some r := by
  cases hq : rowOf st r.a r.b with
  | none => exact absurd ⟨rfl, rfl⟩ (rowOf_none hq r hr)
  | some s =>
    obtain ⟨h1, h2, h3⟩ := rowOf_some hq
    rw [h.at_ h1 hr h2 h3]
theorem sig_of {st : NSt} (h : KA st.rows) {r : NRow} (hr : r ∈ st.rows) : sig st r.a r.b = r.ps := by
  unfold sig; rw [rowOf_of h hr]
theorem sig_none {st : NSt} {a b : Int} (h : ∀ r ∈ st.rows, ¬ (r.a = a ∧ r.b = b)) : sig st a b = [] := by
  unfold sig
  cases hq : rowOf st a b with
  | none => rfl
  | some s => obtain ⟨h1, h2⟩ := rowOf_some hq; exact absurd h2 (h s h1)
/-- The packets of a link, where a row was changed. -/
theorem sig_set {st : NSt} {m' : Nat} {j : Nat} {r r' : NRow} (h : KA st.rows) (hj : st.rows[j]? = some r) (ha : r'.a = r.a) (hb : r'.b = r.b) (a b : Int) :
    sig ⟨m', st.rows.set j r'⟩ a b = if r.a = a ∧ r.b = b then r'.ps else sig st a b := by
  have hka : KA (st.rows.set j r') := by
    refine pair_set (fun x y q e => q ⟨e.1.symm, e.2.symm⟩) h fun i y hi hy e => ?_
    have : r = y := h.at_ (List.mem_of_getElem? hj) (List.mem_of_getElem? hy) (ha.symm.trans e.1) (hb.symm.trans e.2)
    subst this
    obtain ⟨i1, i2⟩ := List.getElem?_eq_some_iff.1 hj
    obtain ⟨k1, k2⟩ := List.getElem?_eq_some_iff.1 hy
    have hp := List.pairwise_iff_getElem.1 h
    rcases Nat.lt_or_gt_of_ne hi with q | q
    · exact hp i j k1 i1 q ⟨by rw [i2, k2], by rw [i2, k2]⟩
    · exact hp j i i1 k1 q ⟨by rw [i2, k2], by rw [i2, k2]⟩
  have hlt := (List.getElem?_eq_some_iff.1 hj).1
  split
  next e =>
    have hm : r' ∈ st.rows.set j r' := List.mem_of_getElem? (i := j) (by rw [List.getElem?_set_self hlt])
    have := sig_of (st := ⟨m', st.rows.set j r'⟩) hka hm
    rw [ha, hb, e.1, e.2] at this
    exact this
  next e =>
    cases hq : rowOf st a b with
    | none =>
      rw [show sig st a b = [] by unfold sig; rw [hq]]
      refine sig_none fun s hs => ?_
      rcases List.mem_or_eq_of_mem_set hs with k | rfl
      · exact rowOf_none hq s k
      · rw [ha, hb]; exact e
    | some s =>
      obtain ⟨h1, h2, h3⟩ := rowOf_some hq
      obtain ⟨i, hi⟩ := List.mem_iff_getElem?.1 h1
      have hne : j ≠ i := by
        rintro rfl
        rw [hj] at hi
        injection hi with hi
        subst hi
        exact e ⟨h2, h3⟩
      have hm : s ∈ st.rows.set j r' := List.mem_of_getElem? (i := i) (by rw [List.getElem?_set_ne hne]; exact hi)
      have := sig_of (st := ⟨m', st.rows.set j r'⟩) hka hm
      rw [h2, h3] at this
      rw [this]
      unfold sig; rw [hq]
theorem sig_push {st : NSt} {m' : Nat} {r' : NRow} (h : KA st.rows) (hno : ∀ r ∈ st.rows, ¬ (r.a = r'.a ∧ r.b = r'.b)) (a b : Int) :
    sig ⟨m', st.rows ++ [r']⟩ a b = if r'.a = a ∧ r'.b = b then r'.ps else sig st a b := by
  have hka : KA (st.rows ++ [r']) := List.pairwise_append.2 ⟨h, List.pairwise_singleton _ _, fun x hx y hy => by simp at hy; subst hy; exact hno x hx⟩
  split
  next e =>
    have := sig_of (st := ⟨m', st.rows ++ [r']⟩) hka (r := r') (by simp)
    rw [e.1, e.2] at this
    exact this
  next e =>
    cases hq : rowOf st a b with
    | none =>
      rw [show sig st a b = [] by unfold sig; rw [hq]]
      refine sig_none fun s hs => ?_
      simp at hs
      rcases hs with k | rfl
      · exact rowOf_none hq s k
      · exact e
    | some s =>
      obtain ⟨h1, h2, h3⟩ := rowOf_some hq
      have := sig_of (st := ⟨m', st.rows ++ [r']⟩) hka (r := s) (by simp [h1])
      rw [h2, h3] at this
      rw [this]
      unfold sig; rw [hq]
theorem sig_erase {st : NSt} {m' : Nat} {j : Nat} {r : NRow} (h : KA st.rows) (hj : st.rows[j]? = some r) (a b : Int) :
    sig ⟨m', st.rows.eraseIdx j⟩ a b = if r.a = a ∧ r.b = b then [] else sig st a b := by
  have hka : KA (st.rows.eraseIdx j) := h.sublist (List.eraseIdx_sublist _ _)
  obtain ⟨i1, i2⟩ := List.getElem?_eq_some_iff.1 hj
  have hp := List.pairwise_iff_getElem.1 h
  have hmem : ∀ s, s ∈ st.rows.eraseIdx j ↔ ∃ i, i ≠ j ∧ st.rows[i]? = some s := fun s => List.mem_eraseIdx_iff_getElem?
  split
  next e =>
    refine sig_none fun s hs e2 => ?_
    obtain ⟨i, hi, hk⟩ := (hmem s).1 hs
    obtain ⟨k1, k2⟩ := List.getElem?_eq_some_iff.1 hk
    rcases Nat.lt_or_gt_of_ne hi with q | q
    · exact hp i j k1 i1 q ⟨by rw [i2, k2, e2.1, e.1], by rw [i2, k2, e2.2, e.2]⟩
    · exact hp j i i1 k1 q ⟨by rw [i2, k2, e2.1, e.1], by rw [i2, k2, e2.2, e.2]⟩
  next e =>
    cases hq : rowOf st a b with
    | none =>
      rw [show sig st a b = [] by unfold sig; rw [hq]]
      refine sig_none fun s hs => rowOf_none hq s ((List.eraseIdx_sublist _ _).subset hs)
    | some s =>
      obtain ⟨h1, h2, h3⟩ := rowOf_some hq
      obtain ⟨i, hi⟩ := List.mem_iff_getElem?.1 h1
      have hne : i ≠ j := by
        rintro rfl
        rw [hj] at hi
        injection hi with hi
        subst hi
        exact e ⟨h2, h3⟩
      have := sig_of (st := ⟨m', st.rows.eraseIdx j⟩) hka (r := s) ((hmem s).2 ⟨i, hne, hi⟩)
      rw [h2, h3] at this
      rw [this]
      unfold sig; rw [hq]
end Go.Proofs.YtenkhbiikecegaaGreat
