/- net: what is taken lies apart from what is left. -/
import Derived.Test.YtenkhbiikecegaaGreatNCut
namespace Go.Proofs.YtenkhbiikecegaaGreat
open Go.RowKit Go.Maps Go.ChangeMaps
set_option linter.unusedVariables false
set_option maxRecDepth 100000

theorem sig_row {st : NSt} {a b : Int} {k : Nat} {p : PV} (h : (sig st a b)[k]? = some p) : ∃ r, rowOf st a b = some r ∧ r ∈ st.rows ∧ r.a = a ∧ r.b = b ∧ sig st a b = r.ps := by
  cases q : rowOf st a b with
  | none => simp [sig, q] at h
  | some r =>
    obtain ⟨h1, h2, h3⟩ := rowOf_some q
    exact ⟨r, rfl, h1, h2, h3, by unfold sig; rw [q]⟩
theorem sig_mem {st : NSt} {a b : Int} {q : PV} (h : q ∈ sig st a b) : ∃ r, r ∈ st.rows ∧ r.a = a ∧ r.b = b ∧ q ∈ r.ps := by
  obtain ⟨k, hk⟩ := List.mem_iff_getElem?.1 h
  obtain ⟨r, _, h1, h2, h3, h4⟩ := sig_row hk
  exact ⟨r, h1, h2, h3, h4 ▸ h⟩
theorem rows_sep {st : NSt} (h : st.rows.Pairwise RSep) {r s : NRow} (hr : r ∈ st.rows) (hs : s ∈ st.rows) (hne : r ≠ s) : RSep r s := by
  obtain ⟨i, hi⟩ := List.mem_iff_getElem?.1 hr
  obtain ⟨j, hj⟩ := List.mem_iff_getElem?.1 hs
  obtain ⟨i1, i2⟩ := List.getElem?_eq_some_iff.1 hi
  obtain ⟨j1, j2⟩ := List.getElem?_eq_some_iff.1 hj
  have hp := List.pairwise_iff_getElem.1 h
  rcases Nat.lt_trichotomy i j with q | q | q
  · have := hp i j i1 j1 q; rw [i2, j2] at this; exact this
  · subst q; exact absurd (i2.symm.trans j2) hne
  · have := hp j i j1 i1 q; rw [i2, j2] at this; exact this.symm
theorem ps_sep {l : List PV} (h : l.Pairwise PSep) {i k : Nat} {p q : PV} (hi : l[i]? = some q) (hk : l[k]? = some p) (hne : i ≠ k) : PSep p q := by
  obtain ⟨i1, i2⟩ := List.getElem?_eq_some_iff.1 hi
  obtain ⟨j1, j2⟩ := List.getElem?_eq_some_iff.1 hk
  have hp := List.pairwise_iff_getElem.1 h
  rcases Nat.lt_or_gt_of_ne hne with q | q
  · have := hp i k i1 j1 q; rw [i2, j2] at this; exact this.symm
  · have := hp k i j1 i1 q; rw [i2, j2] at this; exact this
/-- A link's packet lies apart from all other packets of the net. -/
theorem NetAt.sep_in {w : World} {K : Nat → Prop} {N : Nat} {st : NSt} (h : NetAt w K N st) {a b : Int} {k : Nat} {p : PV} (hp : (sig st a b)[k]? = some p) (x y : Int) (q : PV) (hq : q ∈ if a = x ∧ b = y then (sig st a b).eraseIdx k else sig st x y) : PSep p q := by
  obtain ⟨r, _, hr, ea, eb, e⟩ := sig_row hp
  split at hq
  next => 
    rw [e] at hq hp
    obtain ⟨i, hik, hi⟩ := List.mem_eraseIdx_iff_getElem?.1 hq
    exact ps_sep (h.row r hr).pap hi hp hik
  next hne =>
    obtain ⟨s, hs, e1, e2, hqs⟩ := sig_mem hq
    refine (rows_sep h.apart hr hs ?_).2 p (by rw [e] at hp; exact List.mem_of_getElem? hp) q hqs
    rintro rfl
    exact hne ⟨ea.symm.trans e1, eb.symm.trans e2⟩
/-- Its packets lie in no block of a packet that lies apart from them. -/
theorem NetAt.excl {w : World} {K : Nat → Prop} {N : Nat} {st : NSt} (h : NetAt w K N st) (p : PV) (hp : ∀ x y q, q ∈ sig st x y → PSep p q) : NetAt w (fun b => K b ∧ p.val.ownBlock ≠ some b) N st := by
  refine ⟨h.net, h.map, fun r hr => ?_, h.apart⟩
  have hR := h.row r hr
  refine ⟨hR.ia, hR.ib, hR.ne, hR.few, hR.le, hR.max, hR.bk, fun q hq => ⟨?_, (hR.dat q hq).2⟩, hR.pap⟩
  obtain ⟨b, h1, h2⟩ := (hR.dat q hq).1
  refine ⟨b, h1, fun e => ⟨⟨(h2 e).1, fun e' => ?_⟩, (h2 e).2⟩⟩
  have hm : q ∈ sig st r.a r.b := by rw [sig_of h.ka hr]; exact hq
  exact hp _ _ q hm b e' e
/-- The packet of a place. -/
theorem NetAt.dat_at {w : World} {K : Nat → Prop} {N : Nat} {st : NSt} (h : NetAt w K N st) {a b : Int} {k : Nat} {p : PV} (hp : (sig st a b)[k]? = some p) : Dat w K p.A p.c p.l ∧ p.l.length ≤ 262144 := by
  obtain ⟨r, _, hr, ea, eb, e⟩ := sig_row hp
  rw [e] at hp
  exact (h.row r hr).dat p (List.mem_of_getElem? hp)
theorem NetAt.few {w : World} {K : Nat → Prop} {N : Nat} {st : NSt} (h : NetAt w K N st) (a b : Int) : (sig st a b).length ≤ 64 := by
  cases q : rowOf st a b with
  | none => simp [sig, q]
  | some r => rw [show sig st a b = r.ps by unfold sig; rw [q]]; exact (h.row r (rowOf_some q).1).few
end Go.Proofs.YtenkhbiikecegaaGreat
