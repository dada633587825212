/- net: the rows that the stage's theorem keeps beside the net. -/
import Derived.Test.YtenkhbiikecegaaNDo
namespace Go.Proofs.Ytenkhbiikecegaa
open Go.RowKit Go.Maps Go.ChangeMaps
set_option linter.unusedVariables false
set_option linter.unusedSimpArgs false
set_option maxRecDepth 100000

def strV (u : List UInt8) : Value := .string ⟨u.toArray⟩
/-- A row of strings: the slice, its block, the strings. -/
structure KRow where
  v : Value
  g : Nat
  us : List (List UInt8)
  deriving Inhabited
def KRow.cs (r : KRow) : List Value := r.us.map strV
theorem KRow.one (r : KRow) : ∀ u ∈ r.cs, u.oneCell' = true := by
  intro u hu
  obtain ⟨x, _, rfl⟩ := List.mem_map.1 hu
  rfl
structure KI (w0 : World) (G N : Nat) (B : Nat → Prop) (S : Sg) (rs : List KRow) (w : World) : Prop where
  len : rs.length = 9
  bk : Bk w G 45 (rs.map KRow.v)
  row : ∀ r ∈ rs, Row w 9 1 r.v r.g r.us.length r.cs ∧ (r.v.ownBlock = some r.g → ¬ B r.g ∧ w0.heap.size ≤ r.g ∧ r.g < w.heap.size)
  apart : rs.Pairwise fun r s => r.v.ownBlock = some r.g → s.v.ownBlock = some s.g → r.g ≠ s.g
  net : NB B N S [] w
  hB : ∀ j, B j → w0.heap.size ≤ j
  hG : ¬ B G ∧ w0.heap.size ≤ G
  bel : Below w0.heap.size w0 w
theorem row_own {w : World} {e : TypeId} {v : Value} {g n : Nat} {xs : List Value} (h : Row w e 1 v g n xs) : ∃ A c, v = .slice A n c ∧ ((A = none ∧ n = 0) ∨ (A = some ⟨g, 0, none⟩ ∧ v.ownBlock = some g ∧ ∃ cur, w.heap[g]? = some (.cells cur e (0, 0)))) := by
  rcases h.2 with ⟨rfl, rfl⟩ | ⟨cap, cur, rfl, hg, _⟩
  · exact ⟨none, 0, rfl, .inl ⟨rfl, rfl⟩⟩
  · exact ⟨_, _, rfl, .inr ⟨rfl, rfl, cur, hg⟩⟩
/-- The packets are those of the rows. -/
def KS (S : Sg) (rs : List KRow) : Prop := ∀ a b, S a b = if 0 ≤ a ∧ a < 3 ∧ 0 ≤ b ∧ b < 3 then ((rs.getD (3 * a + b).toNat default).us).map bI else []
theorem NB.forget {B : Nat → Prop} {N : Nat} {S : Sg} {T : List PV} {w : World} (h : NB B N S T w) : NB B N S [] w := by
  obtain ⟨st, h⟩ := h
  exact ⟨st, h.net.mono (fun b q _ => ⟨q.1, by simp⟩), h.sg, h.own, h.hN, h.lt, by simp, List.Pairwise.nil⟩
theorem KI.keep {w0 w w' : World} {G N : Nat} {B : Nat → Prop} {S : Sg} {rs : List KRow} (h : KI w0 G N B S rs w) (hk : ∀ j, w0.heap.size ≤ j → j < w.heap.size → w'.heap[j]? = w.heap[j]?) (hb : Below w0.heap.size w w') : KI w0 G N B S rs w' := by
  refine ⟨h.len, (hk G h.hG.2 h.bk.lt).trans h.bk, fun r hr => ⟨(h.row r hr).1.keep (fun e => ?_), fun e => ?_⟩, h.apart, h.net.keep (fun j q => hk j (h.hB j q) (h.net.lt q)) hb.size, h.hB, h.hG, h.bel.trans hb⟩
  · obtain ⟨_, q2, q3⟩ := (h.row r hr).2 e
    exact hk _ q2 q3
  · obtain ⟨q1, q2, q3⟩ := (h.row r hr).2 e
    exact ⟨q1, q2, Nat.lt_of_lt_of_le q3 hb.size⟩
theorem KI.below {w0 w w' : World} {G N : Nat} {B : Nat → Prop} {S : Sg} {rs : List KRow} (h : KI w0 G N B S rs w) (hb : Below w.heap.size w w') : KI w0 G N B S rs w' :=
  h.keep (fun j _ hl => hb.block j hl) (hb.mono h.bel.size)
/-- The net has done something. -/
theorem KI.did {w0 w w' : World} {G N : Nat} {B : Nat → Prop} {S S' : Sg} {T : List PV} {rs : List KRow} (h : KI w0 G N B S rs w) (hd : Did B N S' T w w') : ∃ B', KI w0 G N B' S' rs w' ∧ ∀ p ∈ T, Dat w' B' p.A p.c p.l := by
  obtain ⟨B', h1, h2, h3⟩ := hd
  have hGl := h.bk.lt
  refine ⟨B', ⟨h.len, (h3.block G hGl h.hG.1).trans h.bk, fun r hr => ⟨(h.row r hr).1.keep (fun e => ?_), fun e => ?_⟩, h.apart, h2.forget, fun j q => ?_, ⟨fun e => ?_, h.hG.2⟩, h.bel.trans (h3.below h.hB h.bel.size)⟩, fun p hp => h2.dat hp⟩
  · obtain ⟨q1, q2, q3⟩ := (h.row r hr).2 e
    exact h3.block _ q3 q1
  · obtain ⟨q1, q2, q3⟩ := (h.row r hr).2 e
    refine ⟨fun e' => ?_, q2, Nat.lt_of_lt_of_le q3 h3.size⟩
    rcases h1 _ e' with k | k
    · exact q1 k
    · omega
  · rcases h1 _ q with k | k
    · exact h.hB j k
    · exact Nat.le_trans h.bel.size k
  · rcases h1 _ e with k | k
    · exact h.hG.1 k
    · omega
theorem KI.at_ {w0 w : World} {G N : Nat} {B : Nat → Prop} {S : Sg} {rs : List KRow} (h : KI w0 G N B S rs w) {i : Nat} (hi : i < 9) : ∃ r, rs[i]? = some r ∧ r ∈ rs ∧ w.cell? ⟨G, i, none⟩ = some r.v ∧ rs.getD i default = r := by
  have hl : i < rs.length := by rw [h.len]; exact hi
  refine ⟨rs[i], List.getElem?_eq_getElem hl, List.getElem_mem hl, ?_, ?_⟩
  · rw [h.bk.cell i, List.getElem?_map, List.getElem?_eq_getElem hl]; rfl
  · simp [List.getD_eq_getElem?_getD, hl]
/-- A row has been changed. -/
theorem KI.set {w0 w w1 : World} {G N : Nat} {B : Nat → Prop} {S : Sg} {rs : List KRow} (h : KI w0 G N B S rs w) {i : Nat} {r r' : KRow} (hi : rs[i]? = some r) (hr : Row w1 9 1 r'.v r'.g r'.us.length r'.cs)
    (hg : r'.v.ownBlock = some r'.g → (w.heap.size ≤ r'.g ∧ r'.g < w1.heap.size) ∨ (r'.g = r.g ∧ r.v.ownBlock = some r.g)) (hw : w.grownBy w1 r.v.ownBlock) : KI w0 G N B S (rs.set i r') (w1.setCell ⟨G, i, none⟩ r'.v) := by
  have hmem : r ∈ rs := List.mem_of_getElem? hi
  have hil := (List.getElem?_eq_some_iff.1 hi).1
  have hGl := h.bk.lt
  have hrow := h.row r hmem
  obtain ⟨A, c, ev, hA⟩ := row_own hrow.1
  have hown : ∀ k, r.v.ownBlock = some k → k = r.g ∧ r.v.ownBlock = some r.g := by
    intro k hk
    rcases hA with ⟨q1, _⟩ | ⟨q1, q2, _⟩
    · rw [ev, q1] at hk; cases hk
    · rw [q2] at hk; injection hk with hk; exact ⟨hk.symm, q2⟩
  have hGr : some G ≠ r.v.ownBlock := by
    intro e
    obtain ⟨e1, e2⟩ := hown G e.symm
    rcases hA with ⟨q1, _⟩ | ⟨_, _, cur, hc⟩
    · rw [ev, q1] at e; cases e
    · rw [← e1, h.bk] at hc
      injection hc with hc
      injection hc with _ hc
      exact absurd hc (by decide)
  have hbG : Bk w1 G 45 (rs.map KRow.v) := (hw.block G hGl hGr).trans h.bk
  have hfar : ∀ k, k ≠ G → (w1.setCell ⟨G, i, none⟩ r'.v).heap[k]? = w1.heap[k]? := fun k hk => Below.heap_setCell w1 _ _ k hk
  have hsz : (w1.setCell ⟨G, i, none⟩ r'.v).heap.size = w1.heap.size := by simp
  have hr'G : r'.v.ownBlock = some r'.g → r'.g ≠ G := by
    intro e
    rcases hg e with ⟨k, _⟩ | ⟨k1, k2⟩
    · omega
    · rw [k1]; intro e'; exact hGr (by rw [k2, e'])
  have hB1 : ∀ j, B j → w1.heap[j]? = w.heap[j]? := fun j hj => hw.block j (h.net.lt hj) (fun e => (hrow.2 (hown j e.symm).2).1 ((hown j e.symm).1 ▸ hj))
  have hsame : ∀ j s, j ≠ i → rs[j]? = some s → s.v.ownBlock = some s.g → r.v.ownBlock = some r.g → s.g ≠ r.g := by
    intro j s hj hs e1 e2
    obtain ⟨j1, j2⟩ := List.getElem?_eq_some_iff.1 hs
    obtain ⟨i1, i2⟩ := List.getElem?_eq_some_iff.1 hi
    have hp := List.pairwise_iff_getElem.1 h.apart
    rcases Nat.lt_or_gt_of_ne hj with q | q
    · have := hp j i j1 i1 q
      rw [j2, i2] at this
      exact this e1 e2
    · have := hp i j i1 j1 q
      rw [j2, i2] at this
      exact fun e => this e2 e1 e.symm
  refine ⟨by rw [List.length_set]; exact h.len, ?_, fun s hs => ?_, ?_, h.net.keep (fun j hj => (hfar j (fun e => h.hG.1 (e ▸ hj))).trans (hB1 j hj)) (by rw [hsz]; exact hw.size), h.hB, h.hG, ?_⟩
  · have := hbG.set i r'.v
    rwa [map_set_eq]
  · obtain ⟨j, hj⟩ := List.mem_iff_getElem?.1 hs
    by_cases hij : j = i
    · subst hij
      rw [List.getElem?_set_self hil] at hj
      injection hj with hj
      subst hj
      refine ⟨hr.keep (fun e => hfar _ (hr'G e)), fun e => ?_⟩
      rcases hg e with ⟨k1, k2⟩ | ⟨k1, k2⟩
      · exact ⟨fun hb => by have := h.net.lt hb; omega, Nat.le_trans h.bel.size k1, by rw [hsz]; exact k2⟩
      · obtain ⟨m1, m2, m3⟩ := hrow.2 k2
        exact ⟨by rw [k1]; exact m1, by rw [k1]; exact m2, by rw [k1, hsz]; exact Nat.lt_of_lt_of_le m3 hw.size⟩
    · rw [List.getElem?_set_ne (fun e => hij e.symm)] at hj
      have hso := h.row s (List.mem_of_getElem? hj)
      refine ⟨hso.1.keep (fun e => ?_), fun e => ?_⟩
      · obtain ⟨_, m2, m3⟩ := hso.2 e
        have hsG : s.g ≠ G := by
          intro e'
          obtain ⟨A', c', ev', hA'⟩ := row_own hso.1
          rcases hA' with ⟨q1, _⟩ | ⟨_, _, cur, hc⟩
          · rw [ev', q1] at e; cases e
          · rw [e', h.bk] at hc
            injection hc with hc
            injection hc with _ hc
            exact absurd hc (by decide)
        exact (hfar _ hsG).trans (hw.block _ m3 (fun e' => by
          obtain ⟨e1, e2⟩ := hown _ e'.symm
          exact hsame j s hij hj e e2 e1))
      · obtain ⟨m1, m2, m3⟩ := hso.2 e
        exact ⟨m1, m2, by rw [hsz]; exact Nat.lt_of_lt_of_le m3 hw.size⟩
  · rw [List.pairwise_iff_getElem]
    have hp := List.pairwise_iff_getElem.1 h.apart
    intro a b ha hb hab
    simp only [List.length_set] at ha hb
    rw [List.getElem_set, List.getElem_set]
    have other : ∀ (j : Nat) (hj : j < rs.length), j ≠ i → rs[j].v.ownBlock = some rs[j].g → r'.v.ownBlock = some r'.g → rs[j].g ≠ r'.g := by
      intro j hj hne e1 e2
      have hm := h.row rs[j] (List.getElem_mem hj)
      obtain ⟨_, _, m3⟩ := hm.2 e1
      rcases hg e2 with ⟨k1, _⟩ | ⟨k1, k2⟩
      · omega
      · rw [k1]; exact hsame j _ hne (List.getElem?_eq_getElem hj) e1 k2
    by_cases h1 : i = a
    · subst h1
      rw [if_pos rfl, if_neg (by omega)]
      exact fun e1 e2 e3 => other b hb (by omega) e2 e1 e3.symm
    · rw [if_neg h1]
      by_cases h2 : i = b
      · subst h2
        rw [if_pos rfl]
        exact fun e1 e2 => other a ha (by omega) e1 e2
      · rw [if_neg h2]
        exact hp a b ha hb hab
  · have hb1 : Below w0.heap.size w w1 := ⟨hw.os, hw.tape, hw.output, hw.size, fun k hk => hw.block k (Nat.lt_of_lt_of_le hk h.bel.size) (fun e => by
      obtain ⟨e1, e2⟩ := hown k e.symm
      have := (hrow.2 e2).2.1
      omega)⟩
    exact (h.bel.trans hb1).setCell (by show w0.heap.size ≤ G; exact h.hG.2) _
theorem KS.at_ {S : Sg} {rs : List KRow} (h : KS S rs) {f t : Nat} (hf : f < 3) (ht : t < 3) {r : KRow} (hr : rs.getD (3 * f + t) default = r) : S f t = r.us.map bI := by
  rw [h f t, if_pos ⟨by omega, by omega, by omega, by omega⟩, show (3 * (f : Int) + (t : Int)).toNat = 3 * f + t by omega, hr]
theorem KS.upd {S : Sg} {rs : List KRow} (h : KS S rs) (hl : rs.length = 9) {f t : Nat} (hf : f < 3) (ht : t < 3) (r' : KRow) : KS (upd S f t (r'.us.map bI)) (rs.set (3 * f + t) r') := by
  intro a b
  unfold Go.Proofs.Ytenkhbiikecegaa.upd
  by_cases e : (f : Int) = a ∧ (t : Int) = b
  · obtain ⟨rfl, rfl⟩ := e
    rw [if_pos ⟨rfl, rfl⟩, if_pos ⟨by omega, by omega, by omega, by omega⟩, show (3 * (f : Int) + (t : Int)).toNat = 3 * f + t by omega]
    rw [List.getD_eq_getElem?_getD, List.getElem?_set_self (by omega)]
    rfl
  · rw [if_neg e, h a b]
    by_cases hr : 0 ≤ a ∧ a < 3 ∧ 0 ≤ b ∧ b < 3
    · rw [if_pos hr, if_pos hr]
      rw [List.getD_eq_getElem?_getD, List.getD_eq_getElem?_getD, List.getElem?_set_ne (by omega)]
    · rw [if_neg hr, if_neg hr]
end Go.Proofs.Ytenkhbiikecegaa
