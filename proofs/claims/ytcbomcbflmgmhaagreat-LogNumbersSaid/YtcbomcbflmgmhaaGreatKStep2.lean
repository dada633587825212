/- What is told lies apart: no new function. -/
import Derived.Test.YtcbomcbflmgmhaaGreatKStep1
namespace Go.Proofs.YtcbomcbflmgmhaaGreat
open Go.RowKit
set_option linter.unusedVariables false
set_option maxRecDepth 100000

theorem Fl.app {W : World} {e : TypeId} {size : Nat} {S1 S2 : Nat → Prop} {l1 l2 : List Fs} {C1 C2 : Nat → List Value} (h1 : Fl W e size S1 l1 C1) (h2 : Fl W e size S2 l2 C2) (hd : ∀ b, S1 b → ¬ S2 b) :
    Fl W e size (fun b => S1 b ∨ S2 b) (l1 ++ l2) (fun k => if k < l1.length then C1 k else C2 (k - l1.length)) := by
  have part : ∀ (k : Nat) (x : Fs), (l1 ++ l2)[k]? = some x → (k < l1.length ∧ l1[k]? = some x) ∨ (¬ k < l1.length ∧ l2[k - l1.length]? = some x) := by
    intro k x hx
    by_cases h : k < l1.length
    · exact .inl ⟨h, by rw [List.getElem?_append_left h] at hx; exact hx⟩
    · exact .inr ⟨h, by rw [List.getElem?_append_right (by omega)] at hx; exact hx⟩
  refine ⟨fun k x hx => ?_, fun k x hx ho => ?_, fun k k' x x' hx hx' hne ho ho' => ?_⟩
  · rcases part k x hx with ⟨h, h'⟩ | ⟨h, h'⟩
    · simp only [if_pos h]; exact h1.row k x h'
    · simp only [if_neg h]; exact h2.row _ x h'
  · rcases part k x hx with ⟨h, h'⟩ | ⟨h, h'⟩
    · exact ⟨.inl (h1.own k x h' ho).1, (h1.own k x h' ho).2⟩
    · exact ⟨.inr (h2.own _ x h' ho).1, (h2.own _ x h' ho).2⟩
  · rcases part k x hx with ⟨h, q1⟩ | ⟨h, q1⟩ <;> rcases part k' x' hx' with ⟨h', q2⟩ | ⟨h', q2⟩
    · exact h1.dis k k' x x' q1 q2 hne ho ho'
    · exact fun e => hd _ (h1.own k x q1 ho).1 (by rw [e]; exact (h2.own _ x' q2 ho').1)
    · exact fun e => hd _ (h1.own k' x' q2 ho').1 (by rw [← e]; exact (h2.own _ x q1 ho).1)
    · exact h2.dis _ _ x x' q1 q2 (by omega) ho ho'
def datFs (e : En) (d : Option Addr × Nat) : Fs := ⟨.slice d.1 e.data.length d.2, (d.1.map Addr.block).getD 0, e.data.length⟩
theorem Dat.row {w : World} {K : Nat → Prop} {A : Option Addr} {c : Nat} {l : List Int} (h : Dat w K A c l) : Row w 5 1 (.slice A l.length c) ((A.map Addr.block).getD 0) l.length (u8s l) ∧ ∀ b, (Value.slice A l.length c).ownBlock = some b → K b ∧ b < w.heap.size := by
  obtain ⟨b, h1, h2⟩ := h
  rcases h1.2 with ⟨e1, e2⟩ | ⟨cap, cur, e1, hg, h3, h4, h5, h6⟩
  · injection e1 with e1 e3 e4
    subst e1 e4
    have : l = [] := List.eq_nil_of_length_eq_zero e2
    subst this
    exact ⟨Row.nil _ _ _ _, fun b e => by cases e⟩
  · injection e1 with e1 e3 e4
    subst e1 e4
    refine ⟨⟨h1.1, .inr ⟨c, cur, rfl, hg, h3, h4, h5, h6⟩⟩, fun b' e => ?_⟩
    injection e with e
    subst e
    exact h2 rfl
def datsFs (es : List En) (ds : List (Option Addr × Nat)) : List Fs := List.zipWith datFs es ds
theorem datsFs_get {es : List En} {ds : List (Option Addr × Nat)} {k : Nat} {x : Fs} (h : (datsFs es ds)[k]? = some x) : ∃ e d, es[k]? = some e ∧ ds[k]? = some d ∧ x = datFs e d := by
  simp only [datsFs, List.getElem?_zipWith] at h
  cases he : es[k]? with
  | none => simp [he] at h
  | some e =>
    cases hd : ds[k]? with
    | none => simp [he, hd] at h
    | some d => simp [he, hd] at h; exact ⟨e, d, rfl, rfl, h.symm⟩
theorem datsFs_v (es : List En) (ds : List (Option Addr × Nat)) : (datsFs es ds).map (·.v) = dataV es ds := by
  simp [datsFs, dataV, List.map_zipWith, datFs]
def u8sOf (es : List En) (k : Nat) : List Value := match es[k]? with | some e => u8s e.data | none => []
/-- The blocks of these bytes. -/
def dBlk (ds : List (Option Addr × Nat)) (b : Nat) : Prop := ∃ d a, d ∈ ds ∧ d.1 = some a ∧ a.block = b
theorem Lst.flB {W : World} {N : Nat} {v : Value} {g : Nat} {es : List En} {ds : List (Option Addr × Nat)} (h : Lst W N v g es ds) : Fl W 5 1 (dBlk ds) (datsFs es ds) (u8sOf es) ∧ ∀ b, dBlk ds b → N ≤ b ∧ v.ownBlock ≠ some b ∧ b < W.heap.size := by
  have own : ∀ (e : En) (d : Option Addr × Nat) (b : Nat), (datFs e d).v.ownBlock = some b → ∃ a, d.1 = some a ∧ a.block = b := by
    intro e d b hb
    cases hd : d.1 with
    | none => simp [datFs, hd, Value.ownBlock] at hb
    | some a => simp [datFs, hd, Value.ownBlock] at hb; exact ⟨a, rfl, hb⟩
  refine ⟨⟨fun k x hx => ?_, fun k x hx ho => ?_, fun k k' x x' hx hx' hne ho ho' => ?_⟩, ?_⟩
  · obtain ⟨e, d, he, hd, rfl⟩ := datsFs_get hx
    have := (h.data k e d he hd).row.1
    unfold u8sOf
    rw [he]
    exact this
  · obtain ⟨e, d, he, hd, rfl⟩ := datsFs_get hx
    obtain ⟨a, e1, e2⟩ := own e d _ ho
    exact ⟨⟨d, a, List.mem_of_getElem? hd, e1, e2⟩, ((h.data k e d he hd).row.2 _ ho).2⟩
  · obtain ⟨e, d, he, hd, rfl⟩ := datsFs_get hx
    obtain ⟨e', d', he', hd', rfl⟩ := datsFs_get hx'
    obtain ⟨a, e1, e2⟩ := own e d _ ho
    obtain ⟨a', e1', e2'⟩ := own e' d' _ ho'
    rw [← e2, ← e2']
    exact h.dis k k' d d' a a' hd hd' e1 e1' hne
  · rintro b ⟨d, a, hd, e1, e2⟩
    obtain ⟨k, hk⟩ := List.mem_iff_getElem?.1 hd
    have hkl := (List.getElem?_eq_some_iff.1 hk).1
    have hke : k < es.length := by rw [← h.len]; exact hkl
    have := (h.data k _ d (List.getElem?_eq_getElem hke) hk).row.2 b (by rw [e1]; simp [Value.ownBlock, e2])
    exact ⟨this.1.1, this.1.2, this.2⟩
theorem Lst.flE {W : World} {N : Nat} {v : Value} {g : Nat} {es : List En} {ds : List (Option Addr × Nat)} (h : Lst W N v g es ds) : Fl W 53 6 (fun b => v.ownBlock = some b) [⟨v, g, es.length⟩] (fun _ => rowV es ds) := by
  have one : ∀ (k : Nat) (x : Fs), [(⟨v, g, es.length⟩ : Fs)][k]? = some x → k = 0 ∧ x = ⟨v, g, es.length⟩ := by
    intro k x hx
    cases k with
    | zero => simp at hx; exact ⟨rfl, hx.symm⟩
    | succ k => simp at hx
  refine ⟨fun k x hx => ?_, fun k x hx ho => ?_, fun k k' x x' hx hx' hne => ?_⟩
  · obtain ⟨_, rfl⟩ := one k x hx; exact h.row
  · obtain ⟨_, rfl⟩ := one k x hx; exact ⟨ho, (h.gb ho).2⟩
  · exact absurd ((one k x hx).1.trans (one k' x' hx').1.symm) hne
theorem Lst.own {W : World} {N : Nat} {v : Value} {g : Nat} {es : List En} {ds : List (Option Addr × Nat)} (h : Lst W N v g es ds) {b : Nat} (hb : v.ownBlock = some b) : N ≤ b ∧ b < W.heap.size := by
  have := own_of_row h.row hb
  have h2 := h.gb this
  rw [this] at hb
  injection hb with hb
  subst hb
  exact h2
/-- Two lists of entries, the second made behind the first. -/
theorem two_lists {w5 W : World} {N1 : Nat} {v1 v2 : Value} {g1 g2 : Nat} {es : List En} {ds1 ds2 : List (Option Addr × Nat)} (h1 : Lst w5 N1 v1 g1 es ds1) (h2 : Lst W w5.heap.size v2 g2 es ds2) (hN : N1 ≤ w5.heap.size) (hb : Below w5.heap.size w5 W) :
    ∃ (SB SE : Nat → Prop) (lsB : List Fs) (CB : Nat → List Value), Fl W 5 1 SB lsB CB ∧ Fl W 53 6 SE ([(⟨v1, g1, es, ds1⟩ : EL), ⟨v2, g2, es, ds2⟩].map EL.fs) (rowsOf [(⟨v1, g1, es, ds1⟩ : EL), ⟨v2, g2, es, ds2⟩]) ∧ lsB.map (·.v) = datasOf [(⟨v1, g1, es, ds1⟩ : EL), ⟨v2, g2, es, ds2⟩] ∧
      (∀ b, SB b → N1 ≤ b ∧ b < W.heap.size) ∧ (∀ b, SE b → N1 ≤ b ∧ b < W.heap.size) ∧ (∀ b, SB b → ¬ SE b) ∧ lsB.length ≤ 2 * es.length ∧ ∀ x ∈ lsB, ∃ e ∈ es, x.n = e.data.length := by
  have h1' := h1.below hb
  obtain ⟨f1, k1⟩ := h1'.flB
  obtain ⟨f2, k2⟩ := h2.flB
  have k1o : ∀ b, dBlk ds1 b → b < w5.heap.size := fun b hb' => (h1.flB.2 b hb').2.2
  have hs := hb.size
  have o1 : ∀ b, v1.ownBlock = some b → b < w5.heap.size := fun b e => (h1.own e).2
  refine ⟨_, fun b => v1.ownBlock = some b ∨ v2.ownBlock = some b, _, _, f1.app f2 (fun b hb1 hb2 => by have := k1o b hb1; have := (k2 b hb2).1; omega), ?_, ?_, ?_, ?_, ?_, ?_, ?_⟩
  · refine (h1'.flE.app h2.flE (fun b e1 e2 => by have := o1 b e1; have := (h2.own e2).1; omega)).eq (fun k x hx => ?_)
    match k, hx with
    | 0, _ => rfl
    | 1, _ => rfl
  · rw [List.map_append, datsFs_v, datsFs_v]
    simp [datasOf]
  · rintro b (hb' | hb')
    · exact ⟨(k1 b hb').1, (k1 b hb').2.2⟩
    · exact ⟨by have := (k2 b hb').1; omega, (k2 b hb').2.2⟩
  · rintro b (hb' | hb')
    · exact h1'.own hb'
    · have := h2.own hb'; exact ⟨by omega, this.2⟩
  · rintro b (hb' | hb') (he | he)
    · exact (k1 b hb').2.1 he
    · have := k1o b hb'; have := (h2.own he).1; omega
    · have := o1 b he; have := (k2 b hb').1; omega
    · exact (k2 b hb').2.1 he
  · simp [datsFs]; omega
  · intro x hx
    simp only [List.mem_append] at hx
    rcases hx with hx | hx
    all_goals
      obtain ⟨k, hk⟩ := List.mem_iff_getElem?.1 hx
      obtain ⟨e, d, he, hd, rfl⟩ := datsFs_get hk
      exact ⟨e, List.mem_of_getElem? he, rfl⟩
/-- Two lists of bytes, the second made behind the first. -/
theorem two_datas {w5 W : World} {N1 : Nat} {A1 A2 : Option Addr} {c1 c2 : Nat} {l1 l2 : List Int} (h1 : Dat w5 (fun b => N1 ≤ b) A1 c1 l1) (h2 : Dat W (fun b => w5.heap.size ≤ b) A2 c2 l2) (hN : N1 ≤ w5.heap.size) (hb : Below w5.heap.size w5 W) :
    ∃ (S : Nat → Prop) (b1 b2 : Nat) (C : Nat → List Value), Fl W 5 1 S [⟨.slice A1 l1.length c1, b1, l1.length⟩, ⟨.slice A2 l2.length c2, b2, l2.length⟩] C ∧ ∀ b, S b → N1 ≤ b ∧ b < W.heap.size := by
  have h1' := (h1.keep (w' := W) (K' := fun b => N1 ≤ b) (fun b _ hl => hb.block b hl) hb.size (fun _ h _ => h)).row
  have h1o := h1.row.2
  have h2' := h2.row
  have hs := hb.size
  have sh : ∀ (A : Option Addr) (n c b : Nat), (Value.slice A n c).ownBlock = some b → (A.map Addr.block).getD 0 = b := by
    intro A n c b e
    cases A with
    | none => cases e
    | some a => injection e
  have one : ∀ (A : Option Addr) (c : Nat) (l : List Int), Row W 5 1 (.slice A l.length c) ((A.map Addr.block).getD 0) l.length (u8s l) → (∀ b, (Value.slice A l.length c).ownBlock = some b → b < W.heap.size) → Fl W 5 1 (fun b => (Value.slice A l.length c).ownBlock = some b) [⟨.slice A l.length c, (A.map Addr.block).getD 0, l.length⟩] (fun _ => u8s l) := by
    intro A c l hr ho
    have one : ∀ (k : Nat) (x : Fs), [(⟨.slice A l.length c, (A.map Addr.block).getD 0, l.length⟩ : Fs)][k]? = some x → k = 0 ∧ x = ⟨.slice A l.length c, (A.map Addr.block).getD 0, l.length⟩ := by
      intro k x hx
      cases k with
      | zero => simp at hx; exact ⟨rfl, hx.symm⟩
      | succ k => simp at hx
    refine ⟨fun k x hx => ?_, fun k x hx ho' => ?_, fun k k' x x' hx hx' hne => ?_⟩
    · obtain ⟨_, rfl⟩ := one k x hx; exact hr
    · obtain ⟨_, rfl⟩ := one k x hx; exact ⟨ho', ho _ ho'⟩
    · exact absurd ((one k x hx).1.trans (one k' x' hx').1.symm) hne
  have f := (one A1 c1 l1 h1'.1 (fun b e => (h1'.2 b e).2)).app (one A2 c2 l2 h2'.1 (fun b e => (h2'.2 b e).2)) (fun b e1 e2 => by have := (h1o b e1).2; have := (h2'.2 b e2).1; omega)
  refine ⟨_, _, _, _, f, ?_⟩
  rintro b (e | e)
  · exact ⟨(h1'.2 b e).1, (h1'.2 b e).2⟩
  · have := h2'.2 b e; exact ⟨by omega, this.2⟩
end Go.Proofs.YtcbomcbflmgmhaaGreat
