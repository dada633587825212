/- raft, the law's world in memory: each block bears a mark that says whose it is. raft, the law's world in memory: how its things turn. raft, the law's world in memory: a peer was called. raft, the law's world: what took is asked, and keeps. -/
import Derived.BigQuiet
import Derived.Deep.DeepCutAuto
import Derived.StillTailTactics
import Derived.BigRegion
import Derived.Deep.RegionHeld3
import Derived.Test.YthfofnfkopnbhaaZA
namespace Go.Proofs.Ythfofnfkopnbhaa
open Go.RowKit Go.Maps Go.ChangeMaps
set_option linter.unusedVariables false
set_option linter.unusedSimpArgs false
set_option linter.unusedSectionVars false
set_option maxRecDepth 100000

/-- Where the law's world lies. -/
structure Ly where
  WB : Nat
  pb : Nat
  tb : Nat
  vb : Nat
  lb : Nat
  P : Int → Nat
  m : Int → Pm
  frm : Int → Int
  la : Int → Option Addr × Nat
  lv : Value
  dv : Value
  sv : Value
/-- What the law keeps. -/
structure Kp where
  T : Int → Int
  V : Int → Int
  L : Int → List En
  net : List (Lt En)
  ld : List Int
  su : List En
def setAt {α : Type} (f : Int → α) (s : Int) (v : α) : Int → α := fun p => if p = s then v else f p
theorem setAt_same {α : Type} (f : Int → α) (s : Int) (v : α) : setAt f s v s = v := by simp [setAt]
theorem setAt_ne {α : Type} (f : Int → α) {s p : Int} (v : α) (h : p ≠ s) : setAt f s v p = f p := by simp [setAt, h]
/-- The law's world's cells. -/
def wV (n : Nat) (y : Ly) : List Value :=
  [.int .i64 n, .slice (some ⟨y.pb, 0, none⟩) (n + 1) (n + 1), .slice (some ⟨y.tb, 0, none⟩) (n + 1) (n + 1), .slice (some ⟨y.vb, 0, none⟩) (n + 1) (n + 1), .slice (some ⟨y.lb, 0, none⟩) (n + 1) (n + 1), y.lv, y.dv, y.sv]
/-- A table of the servers: its first cell plays no part. -/
def Tab (w : World) (b : Nat) (t : TypeId) (n : Nat) (G : Int → Prop) (f : Int → Value) : Prop := ∃ cs, Bk w b t cs ∧ cs.length = n + 1 ∧ ∀ s : Nat, 1 ≤ s → s ≤ n → G s → cs[s]? = some (f s)
section
variable {w w' : World} {b : Nat} {t : TypeId} {n : Nat} {G : Int → Prop} {f : Int → Value}
theorem Tab.cell (h : Tab w b t n G f) {s : Nat} (h1 : 1 ≤ s) (h2 : s ≤ n) (hg : G s) : w.cell? ⟨b, s, none⟩ = some (f s) := by
  obtain ⟨cs, hb, hl, hc⟩ := h
  rw [hb.cell]
  exact hc s h1 h2 hg
theorem Tab.frozen (h : Tab w b t n G f) (i : Nat) : w.frozen? ⟨b, i, none⟩ = false := by
  obtain ⟨cs, hb, hl, hc⟩ := h
  exact hb.frozen i
theorem Tab.some (h : Tab w b t n G f) {s : Nat} (h2 : s ≤ n) : ∃ v, w.cell? ⟨b, s, none⟩ = some v := by
  obtain ⟨cs, hb, hl, hc⟩ := h
  rw [hb.cell]
  exact ⟨_, List.getElem?_eq_getElem (by omega)⟩
theorem Tab.keep (h : Tab w b t n G f) (hk : w'.heap[b]? = w.heap[b]?) {G' : Int → Prop} (hG : ∀ s : Nat, 1 ≤ s → s ≤ n → G' s → G s) : Tab w' b t n G' f := by
  obtain ⟨cs, hb, hl, hc⟩ := h
  exact ⟨cs, hk.trans hb, hl, fun s h1 h2 hg => hc s h1 h2 (hG s h1 h2 hg)⟩
theorem Tab.set (h : Tab w b t n G f) {s : Nat} (h1 : 1 ≤ s) (h2 : s ≤ n) (v : Value) : Tab (w.setCell ⟨b, s, none⟩ v) b t n (fun p => p = s ∨ G p) (setAt f s v) := by
  obtain ⟨cs, hb, hl, hc⟩ := h
  refine ⟨cs.set s v, hb.set s v, by simp [hl], fun p k1 k2 hg => ?_⟩
  by_cases e : p = s
  · subst e
    rw [setAt_same, List.getElem?_set_self (by omega)]
  · rw [setAt_ne _ _ (by omega), List.getElem?_set_ne (by omega)]
    exact hc p k1 k2 (hg.resolve_left (by omega))
theorem Tab.lt (h : Tab w b t n G f) : b < w.heap.size := by
  obtain ⟨cs, hb, _⟩ := h
  exact hb.lt
end
/-- Letters on their way: their row's mark, their entries' mark. -/
def NetAt (w : World) (tg : Nat → Int) (v : Value) (ls : List (Lt En)) : Prop :=
  ∃ g o ds, RowO w 40 10 v g o ls.length (rowL ls ds) ∧ ds.length = ls.length ∧ (v.ownBlock = some g → tg g = 108) ∧ ∀ (i : Nat) (l : Lt En) (d : Option Addr × Nat), ls[i]? = some l → ds[i]? = some d → Ents w (fun b => tg b = 100) d.1 d.2 l.ents
theorem NetAt.form {w : World} {tg : Nat → Int} {v : Value} {ls : List (Lt En)} (h : NetAt w tg v ls) : ∃ A cap, v = .slice A ls.length cap ∧ ls.length ≤ cap ∧ cap ≤ maxLen := by
  obtain ⟨g, o, ds, h1, _⟩ := h
  rcases h1.2 with ⟨e, e2⟩ | ⟨cap, cur, e, _, h3, h4, _⟩
  · rw [e2]; exact ⟨_, _, e, Nat.le_refl _, by decide⟩
  · exact ⟨_, _, e, h3, h4⟩
theorem NetAt.keep {w w' : World} {tg tg' : Nat → Int} {v : Value} {ls : List (Lt En)} (h : NetAt w tg v ls) (hk : ∀ b, tg b = 100 ∨ tg b = 108 → w'.heap[b]? = w.heap[b]? ∧ tg' b = tg b) : NetAt w' tg' v ls := by
  obtain ⟨g, o, ds, h1, h2, h3, h4⟩ := h
  exact ⟨g, o, ds, h1.keep (fun e => (hk g (.inr (h3 e))).1), h2, fun e => (hk g (.inr (h3 e))).2.trans (h3 e), fun i l d hi hd => (h4 i l d hi hd).keep (fun b hb => (hk b (.inl hb)).1) (fun b hb => (hk b (.inl hb)).2.trans hb)⟩
theorem NetAt.own {w : World} {tg : Nat → Int} {v : Value} {ls : List (Lt En)} (h : NetAt w tg v ls) {b : Nat} (hb : v.ownBlock = some b) : tg b = 108 := by
  obtain ⟨g, o, ds, h1, h2, h3, h4⟩ := h
  rcases h1.2 with ⟨e, e2⟩ | ⟨cap, cur, e, _, _, _, _⟩
  · rw [e] at hb; cases hb
  · have e2 : v.ownBlock = some g := by rw [e]; rfl
    rw [e2] at hb
    injection hb with hb
    subst hb
    exact h3 e2
/-- The law's world in memory, but for what bears a mark of X. -/
structure WmX (X : Int → Prop) (w : World) (n : Nat) (tg : Nat → Int) (y : Ly) (prs : Int → Pr En) (k : Kp) : Prop where
  n1 : 1 ≤ n
  n7 : n ≤ 7
  wb : ¬ X 101 → Bk w y.WB 36 (wV n y)
  pk : ¬ X 102 → Tab w y.pb 46 n (fun s => ¬ X s) (fun s => .pointer (some ⟨y.P s, 0, none⟩))
  tk : ¬ X 103 → Tab w y.tb 3 n (fun _ => True) (fun s => .int .i64 (k.T s))
  vk : ¬ X 104 → Tab w y.vb 3 n (fun _ => True) (fun s => .int .i64 (k.V s))
  lk : ¬ X 105 → Tab w y.lb 34 n (fun _ => True) (fun s => .slice (y.la s).1 (k.L s).length (y.la s).2)
  en : ∀ s : Nat, 1 ≤ s → s ≤ n → Ents w (fun b => tg b = 100) (y.la s).1 (y.la s).2 (k.L s)
  pe : ∀ s : Nat, 1 ≤ s → s ≤ n → ¬ X s → PeA w (y.P s) n s (y.m s) (fun _ => False) ⟨prs s, y.frm s, []⟩
  net : ¬ X 108 → NetAt w tg y.lv k.net
  ld : ¬ X 106 → ∃ g, Row w 3 1 y.dv g k.ld.length (k.ld.map (Value.int .i64))
  su : ¬ X 107 → SuAt w (fun b => tg b = 100) y.sv k.su
  tW : ¬ X 101 → tg y.WB = 101
  tp : ¬ X 102 → tg y.pb = 102
  tt : ¬ X 103 → tg y.tb = 103
  tv : ¬ X 104 → tg y.vb = 104
  tl : ¬ X 105 → tg y.lb = 105
  tow : ∀ s : Nat, 1 ≤ s → s ≤ n → ¬ X s → ∀ b, (y.m s).Own (y.P s) b → tg b = s
  td : ¬ X 106 → ∀ b, y.dv.ownBlock = some b → tg b = 106
  ts : ¬ X 107 → ∀ b, y.sv.ownBlock = some b → tg b = 107
  lt : ∀ b, tg b ≠ 0 → b < w.heap.size
abbrev WmAt (w : World) (n : Nat) (tg : Nat → Int) (y : Ly) (prs : Int → Pr En) (k : Kp) : Prop := WmX (fun _ => False) w n tg y prs k
section
variable {X X' : Int → Prop} {w w' : World} {n : Nat} {tg tg' : Nat → Int} {y : Ly} {prs : Int → Pr En} {k : Kp}
/-- Blocks of other marks are as they were, and bear them still. -/
theorem WmX.to_ (h : WmX X w n tg y prs k) (X' : Int → Prop) (hX : ∀ t, X t → X' t) (h100 : ¬ X' 100) (ha : Ag (fun b => tg b ≠ 0 ∧ ¬ X' (tg b)) w w') (ht : ∀ b, tg b ≠ 0 → ¬ X' (tg b) → tg' b = tg b) (hl : ∀ b, tg' b ≠ 0 → b < w'.heap.size) : WmX X' w' n tg' y prs k := by
  have hn : ∀ t, ¬ X' t → ¬ X t := fun t h1 h2 => h1 (hX t h2)
  have hb : ∀ b t, tg b = t → t ≠ 0 → ¬ X' t → w'.heap[b]? = w.heap[b]? ∧ tg' b = t := fun b t e h0 h1 => by
    subst e
    exact ⟨ha.block b (h.lt b h0) ⟨h0, h1⟩, ht b h0 h1⟩
  refine ⟨h.n1, h.n7, fun x => ((hb _ _ (h.tW (hn _ x)) (by decide) x).1).trans (h.wb (hn _ x)), fun x => (h.pk (hn _ x)).keep (hb _ _ (h.tp (hn _ x)) (by decide) x).1 (fun s _ _ g => hn _ g), fun x => (h.tk (hn _ x)).keep (hb _ _ (h.tt (hn _ x)) (by decide) x).1 (fun _ _ _ h => h), fun x => (h.vk (hn _ x)).keep (hb _ _ (h.tv (hn _ x)) (by decide) x).1 (fun _ _ _ h => h), fun x => (h.lk (hn _ x)).keep (hb _ _ (h.tl (hn _ x)) (by decide) x).1 (fun _ _ _ h => h),
    fun s h1 h2 => (h.en s h1 h2).keep (fun b e => (hb b _ e (by decide) h100).1) (fun b e => (hb b _ e (by decide) h100).2), fun s h1 h2 x => (h.pe s h1 h2 (hn _ x)).ag ⟨ha.os, ha.tape, ha.output, ha.size, fun b hlt ho => ?_⟩, fun x => (h.net (hn _ x)).keep (fun b e => ?_), fun x => ?_, fun x => ?_,
    fun x => (hb _ _ (h.tW (hn _ x)) (by decide) x).2, fun x => (hb _ _ (h.tp (hn _ x)) (by decide) x).2, fun x => (hb _ _ (h.tt (hn _ x)) (by decide) x).2, fun x => (hb _ _ (h.tv (hn _ x)) (by decide) x).2, fun x => (hb _ _ (h.tl (hn _ x)) (by decide) x).2, fun s h1 h2 x b e => (hb b _ (h.tow s h1 h2 (hn _ x) b e) (by omega) x).2, fun x b e => (hb b _ (h.td (hn _ x) b e) (by decide) x).2, fun x b e => (hb b _ (h.ts (hn _ x) b e) (by decide) x).2, hl⟩
  · rcases ho with ho | ho
    · exact (hb b _ (h.tow s h1 h2 (hn _ x) b ho) (by omega) x).1
    · exact ho.elim
  · rcases e with e | e
    · exact ⟨(hb b _ e (by decide) h100).1, (hb b _ e (by decide) h100).2.trans e.symm⟩
    · exact ⟨(hb b _ e (by decide) x).1, (hb b _ e (by decide) x).2.trans e.symm⟩
  · obtain ⟨g, hr⟩ := h.ld (hn _ x)
    exact ⟨g, hr.keep (fun e => (hb g _ (h.td (hn _ x) g e) (by decide) x).1)⟩
  · refine (h.su (hn _ x)).keep (fun b e => ?_) (fun b e => (hb b _ e (by decide) h100).1) (fun b e => (hb b _ e (by decide) h100).2)
    have h1 := hb b _ (h.ts (hn _ x) b e) (by decide) x
    exact ⟨h1.1, fun e2 => absurd (h1.2.symm.trans e2) (by decide)⟩
theorem WmX.below (h : WmX X w n tg y prs k) (h100 : ¬ X 100) (hb : Below w.heap.size w w') : WmX X w' n tg y prs k :=
  h.to_ X (fun _ h => h) h100 (Ag.of_below _ hb) (fun _ _ _ => rfl) (fun b e => Nat.lt_of_lt_of_le (h.lt b e) hb.size)
end
end Go.Proofs.Ythfofnfkopnbhaa
namespace Go.Proofs.Ythfofnfkopnbhaa
open Go.RowKit Go.Maps Go.ChangeMaps
set_option linter.unusedVariables false
set_option linter.unusedSimpArgs false
set_option linter.unusedSectionVars false
set_option maxRecDepth 100000

/-- Blocks without a mark stay as they were; marks are set on marked and new blocks alone. -/
structure Goes (tg tg' : Nat → Int) (w w' : World) : Prop where
  ag : Ag (fun b => tg b = 0) w w'
  new : ∀ b, tg' b ≠ 0 → tg b ≠ 0 ∨ w.heap.size ≤ b
theorem Goes.refl (tg : Nat → Int) (w : World) : Goes tg tg w w := ⟨Ag.refl _ _, fun b h => .inl h⟩
theorem Goes.trans {tg tg1 tg2 : Nat → Int} {w w1 w2 : World} (h : Goes tg tg1 w w1) (k : Goes tg1 tg2 w1 w2) : Goes tg tg2 w w2 := by
  refine ⟨⟨k.ag.os.trans h.ag.os, k.ag.tape.trans h.ag.tape, k.ag.output.trans h.ag.output, Nat.le_trans h.ag.size k.ag.size, fun b hb h0 => ?_⟩, fun b hb => ?_⟩
  · have h1 : tg1 b = 0 := Classical.byContradiction fun e => (h.new b e).elim (fun e' => e' h0) (fun e' => by omega)
    exact (k.ag.block b (Nat.lt_of_lt_of_le hb h.ag.size) h1).trans (h.ag.block b hb h0)
  · rcases k.new b hb with e | e
    · exact h.new b e
    · exact .inr (Nat.le_trans h.ag.size e)
theorem Goes.below {tg tg' : Nat → Int} {w w1 w2 : World} (hb : Below w.heap.size w w1) (k : Goes tg tg' w1 w2) : Goes tg tg' w w2 := Goes.trans ⟨Ag.of_below _ hb, fun b h => .inl h⟩ k
theorem Goes.of_below {tg : Nat → Int} {w w1 : World} (hb : Below w.heap.size w w1) : Goes tg tg w w1 := ⟨Ag.of_below _ hb, fun b h => .inl h⟩
theorem rowL_app : ∀ (ls ls2 : List (Lt En)) (ds ds2 : List (Option Addr × Nat)), ds.length = ls.length → rowL (ls ++ ls2) (ds ++ ds2) = rowL ls ds ++ rowL ls2 ds2
  | [], ls2, [], ds2, _ => by simp [rowL]
  | l :: ls, ls2, d :: ds, ds2, h => by
    have := rowL_app ls ls2 ds ds2 (by simpa using h)
    simp [rowL, this]
theorem Row.set {w : World} {e : TypeId} {size : Nat} {v : Value} {g n : Nat} {xs : List Value} (h : Row w e size v g n xs) (j : Nat) (u : Value) (hj : j < n * size) : Row (w.setCell ⟨g, j, none⟩ u) e size v g n (xs.set j u) := by
  refine ⟨by simpa using h.1, ?_⟩
  rcases h.2 with ⟨rfl, rfl⟩ | ⟨cap, cur, rfl, hg, h1, h2, h3, h4⟩
  · simp at hj
  · refine .inr ⟨cap, _, rfl, heap_setCell_same _ _ _ _ _ _ hg, h1, h2, ?_, fun h => by simpa using h4 h⟩
    rw [← h3]
    simp [List.take_set]
section
variable {w w' : World} {n : Nat} {tg tg' : Nat → Int} {y : Ly} {prs : Int → Pr En} {k : Kp}
theorem WmX.setT (h : WmAt w n tg y prs k) {s : Nat} (h1 : 1 ≤ s) (h2 : s ≤ n) (v : Int) : WmAt (w.setCell ⟨y.tb, s, none⟩ (.int .i64 v)) n tg y prs { k with T := setAt k.T s v } ∧ Goes tg tg w (w.setCell ⟨y.tb, s, none⟩ (.int .i64 v)) := by
  have ht := h.tt (fun h => h)
  have hp : ∀ p : Nat, 1 ≤ p → p ≤ n → ¬ ((p : Int) = 103) := fun p _ _ => by have := h.n7; omega
  have g := h.to_ (w' := w.setCell ⟨y.tb, s, none⟩ (.int .i64 v)) (tg' := tg) (fun t => t = 103) (fun _ h => h.elim) (by decide) ((Ag.refl _ w).setCell (fun _ hK => hK.2 ht) _) (fun _ _ _ => rfl) (fun b e => by simp [World.setCell]; exact h.lt b e)
  have hs := (h.tk (fun h => h)).set h1 h2 (.int .i64 v)
  refine ⟨⟨g.n1, g.n7, fun _ => g.wb (by decide), fun _ => (g.pk (by decide)).keep rfl (fun p a b _ => hp p a b), fun _ => ?_, fun _ => g.vk (by decide), fun _ => g.lk (by decide), g.en, fun p a b _ => g.pe p a b (hp p a b), fun _ => g.net (by decide), fun _ => g.ld (by decide), fun _ => g.su (by decide), fun _ => g.tW (by decide), fun _ => g.tp (by decide), fun _ => ht, fun _ => g.tv (by decide), fun _ => g.tl (by decide), fun p a b _ => g.tow p a b (hp p a b), fun _ => g.td (by decide), fun _ => g.ts (by decide), g.lt⟩, ⟨(Ag.refl _ w).setCell (fun _ hK => by have hK : tg y.tb = 0 := hK; rw [ht] at hK; exact absurd hK (by decide)) _, fun b e => .inl e⟩⟩
  obtain ⟨cs, q1, q2, q3⟩ := hs
  refine ⟨cs, q1, q2, fun p a b c => (q3 p a b (.inr c)).trans ?_⟩
  show some (setAt _ _ _ _) = some (Value.int .i64 (setAt k.T s v p))
  unfold setAt
  split <;> rfl
theorem WmX.setV (h : WmAt w n tg y prs k) {s : Nat} (h1 : 1 ≤ s) (h2 : s ≤ n) (v : Int) : WmAt (w.setCell ⟨y.vb, s, none⟩ (.int .i64 v)) n tg y prs { k with V := setAt k.V s v } ∧ Goes tg tg w (w.setCell ⟨y.vb, s, none⟩ (.int .i64 v)) := by
  have ht := h.tv (fun h => h)
  have hp : ∀ p : Nat, 1 ≤ p → p ≤ n → ¬ ((p : Int) = 104) := fun p _ _ => by have := h.n7; omega
  have g := h.to_ (w' := w.setCell ⟨y.vb, s, none⟩ (.int .i64 v)) (tg' := tg) (fun t => t = 104) (fun _ h => h.elim) (by decide) ((Ag.refl _ w).setCell (fun _ hK => hK.2 ht) _) (fun _ _ _ => rfl) (fun b e => by simp [World.setCell]; exact h.lt b e)
  have hs := (h.vk (fun h => h)).set h1 h2 (.int .i64 v)
  refine ⟨⟨g.n1, g.n7, fun _ => g.wb (by decide), fun _ => (g.pk (by decide)).keep rfl (fun p a b _ => hp p a b), fun _ => g.tk (by decide), fun _ => ?_, fun _ => g.lk (by decide), g.en, fun p a b _ => g.pe p a b (hp p a b), fun _ => g.net (by decide), fun _ => g.ld (by decide), fun _ => g.su (by decide), fun _ => g.tW (by decide), fun _ => g.tp (by decide), fun _ => g.tt (by decide), fun _ => ht, fun _ => g.tl (by decide), fun p a b _ => g.tow p a b (hp p a b), fun _ => g.td (by decide), fun _ => g.ts (by decide), g.lt⟩, ⟨(Ag.refl _ w).setCell (fun _ hK => by have hK : tg y.vb = 0 := hK; rw [ht] at hK; exact absurd hK (by decide)) _, fun b e => .inl e⟩⟩
  obtain ⟨cs, q1, q2, q3⟩ := hs
  refine ⟨cs, q1, q2, fun p a b c => (q3 p a b (.inr c)).trans ?_⟩
  show some (setAt _ _ _ _) = some (Value.int .i64 (setAt k.V s v p))
  unfold setAt
  split <;> rfl
/-- New blocks' mark. -/
def tgNew (tg : Nat → Int) (w w2 : World) (t : Int) : Nat → Int := fun b => if w.heap.size ≤ b ∧ b < w2.heap.size then t else tg b
theorem tgNew_old {w w2 : World} {t : Int} (h : ∀ b, tg b ≠ 0 → b < w.heap.size) {b : Nat} (hb : tg b ≠ 0) : tgNew tg w w2 t b = tg b := by
  unfold tgNew
  rw [if_neg]
  have := h b hb
  omega
theorem WmX.setL {w2 : World} (h : WmAt w n tg y prs k) (hb : Below w.heap.size w w2) {s : Nat} (h1 : 1 ≤ s) (h2 : s ≤ n) {A : Option Addr} {c : Nat} {es : List En} (he : Ents w2 (fun b => w.heap.size ≤ b ∧ b < w2.heap.size) A c es) :
    WmAt (w2.setCell ⟨y.lb, s, none⟩ (.slice A es.length c)) n (tgNew tg w w2 100) { y with la := setAt y.la s (A, c) } prs { k with L := setAt k.L s es } ∧ Goes tg (tgNew tg w w2 100) w (w2.setCell ⟨y.lb, s, none⟩ (.slice A es.length c)) := by
  have ht := h.tl (fun h => h)
  have hlb := (h.lk (fun h => h)).lt
  have hp : ∀ p : Nat, 1 ≤ p → p ≤ n → ¬ ((p : Int) = 105) := fun p _ _ => by have := h.n7; omega
  have hold : ∀ b, tg b ≠ 0 → tgNew tg w w2 100 b = tg b := fun b hb => tgNew_old h.lt hb
  have hsz := hb.size
  have hsc : (w2.setCell ⟨y.lb, s, none⟩ (.slice A es.length c)).heap.size = w2.heap.size := by simp [World.setCell]
  have hag : Ag (fun b => tg b ≠ 0 ∧ ¬ (tg b = 105)) w (w2.setCell ⟨y.lb, s, none⟩ (.slice A es.length c)) := (Ag.of_below _ hb).setCell (fun _ hK => hK.2 ht) _
  have g := h.to_ (tg' := tgNew tg w w2 100) (fun t => t = 105) (fun _ h => h.elim) (by decide) hag (fun b e _ => hold b e) (fun b e => by
    rw [hsc]
    unfold tgNew at e
    split at e
    · next q => exact q.2
    · have := h.lt b e; omega)
  have hs := ((h.lk (fun h => h)).keep (hb.block _ hlb) (G' := fun _ => True) (fun _ _ _ h => h)).set h1 h2 (.slice A es.length c)
  refine ⟨⟨g.n1, g.n7, fun _ => g.wb (by decide), fun _ => (g.pk (by decide)).keep rfl (fun p a b _ => hp p a b), fun _ => g.tk (by decide), fun _ => g.vk (by decide), fun _ => ?_, fun p a b => ?_, fun p a b _ => g.pe p a b (hp p a b), fun _ => g.net (by decide), fun _ => g.ld (by decide), fun _ => g.su (by decide), fun _ => g.tW (by decide), fun _ => g.tp (by decide), fun _ => g.tt (by decide), fun _ => g.tv (by decide), fun _ => (hold _ (by rw [ht]; decide)).trans ht, fun p a b _ => g.tow p a b (hp p a b), fun _ => g.td (by decide), fun _ => g.ts (by decide), g.lt⟩, ⟨(Ag.of_below _ hb).setCell (fun _ hK => by have hK : tg y.lb = 0 := hK; rw [ht] at hK; exact absurd hK (by decide)) _, fun b e => ?_⟩⟩
  · obtain ⟨cs, q1, q2, q3⟩ := hs
    refine ⟨cs, q1, q2, fun p a b c => (q3 p a b (.inr c)).trans ?_⟩
    show some (setAt _ _ _ _) = some (Value.slice (setAt y.la s (A, _) p).1 (setAt k.L s es p).length (setAt y.la s (A, _) p).2)
    unfold setAt
    split <;> rfl
  · show Ents _ _ (setAt y.la s (A, c) p).1 (setAt y.la s (A, c) p).2 (setAt k.L s es p)
    by_cases e : (p : Int) = s
    · rw [e, setAt_same, setAt_same]
      exact he.keep (fun b hb' => Below.heap_setCell _ _ _ _ (fun e2 => by have e2 : b = y.lb := e2; omega)) (fun b hb' => by unfold tgNew; rw [if_pos hb'])
    · rw [setAt_ne _ _ e, setAt_ne _ _ e]
      exact g.en p a b
  · unfold tgNew at e
    split at e
    · next q => exact .inr q.1
    · exact .inl e
/-- One block's mark. -/
def tgOne (tg : Nat → Int) (g : Nat) (t : Int) : Nat → Int := fun b => if b = g then t else tg b
theorem tgOne_same (tg : Nat → Int) (g : Nat) (t : Int) : tgOne tg g t g = t := by simp [tgOne]
theorem tgOne_ne (tg : Nat → Int) (g : Nat) (t : Int) {b : Nat} (h : b ≠ g) : tgOne tg g t b = tg b := by simp [tgOne, h]
theorem WmX.netTo {wb w3 : World} (h : WmAt w n tg y prs k) (hbw : Below w.heap.size w wb) {v' : Value} {g' : Nat} {o' : Nat} {ls : List (Lt En)} {ds : List (Option Addr × Nat)} (hd : ds.length = ls.length) (he : ∀ (i : Nat) (l : Lt En) (d : Option Addr × Nat), ls[i]? = some l → ds[i]? = some d → Ents w (fun b => tg b = 100) d.1 d.2 l.ents) (hr : RowO w3 40 10 v' g' o' ls.length (rowL ls ds)) (hgr : wb.grownBy w3 y.lv.ownBlock) (hv' : v'.ownBlock = some g') (hg' : g' = wb.heap.size ∨ y.lv.ownBlock = some g') (hlt : g' < w3.heap.size) :
    WmAt (w3.setCell ⟨y.WB, 5, none⟩ v') n (tgOne tg g' 108) { y with lv := v' } prs { k with net := ls } ∧ Goes tg (tgOne tg g' 108) w (w3.setCell ⟨y.WB, 5, none⟩ v') := by
  have ht := h.tW (fun h => h)
  have hwb := h.wb (fun h => h)
  have hp : ∀ p : Nat, 1 ≤ p → p ≤ n → ¬ ((p : Int) = 101 ∨ (p : Int) = 108) := fun p _ _ => by have := h.n7; omega
  have hown : ∀ b, y.lv.ownBlock = some b → tg b = 108 := fun b e => (h.net (fun h => h)).own e
  have hsz := hbw.size
  have hs3 := hgr.size
  have hsc : (w3.setCell ⟨y.WB, 5, none⟩ v').heap.size = w3.heap.size := by simp [World.setCell]
  have hgt : tg g' = 108 ∨ w.heap.size ≤ g' := hg'.elim (fun e => .inr (by omega)) (fun e => .inl (hown _ e))
  have hgW : g' ≠ y.WB := fun e => by
    rcases hgt with q | q
    · rw [e, ht] at q; exact absurd q (by decide)
    · have := hwb.lt; omega
  have hold : ∀ b, tg b ≠ 0 → tg b ≠ 108 → tgOne tg g' 108 b = tg b := fun b e1 e2 => tgOne_ne _ _ _ (fun e => by
    subst e
    rcases hgt with q | q
    · exact e2 q
    · have := h.lt _ e1; omega)
  have hkeep : ∀ b, b < w.heap.size → tg b ≠ 108 → w3.heap[b]? = w.heap[b]? := fun b q1 q2 => (hgr.block b (by omega) (fun e => q2 (hown b e.symm))).trans (hbw.block b q1)
  have hag : Ag (fun b => tg b ≠ 0 ∧ ¬ (tg b = 101 ∨ tg b = 108)) w (w3.setCell ⟨y.WB, 5, none⟩ v') := Ag.setCell ⟨hgr.os.trans hbw.os, hgr.tape.trans hbw.tape, hgr.output.trans hbw.output, by omega, fun b q1 q2 => hkeep b q1 (fun e => q2.2 (.inr e))⟩ (fun _ hK => hK.2 (.inl ht)) _
  have g := h.to_ (tg' := tgOne tg g' 108) (fun t => t = 101 ∨ t = 108) (fun _ h => h.elim) (by decide) hag (fun b e q => hold b e (fun e2 => q (.inr e2))) (fun b e => by
    rw [hsc]
    by_cases eb : b = g'
    · subst eb; exact hlt
    · rw [tgOne_ne _ _ _ eb] at e
      have := h.lt b e; omega)
  have hWB : Bk (w3.setCell ⟨y.WB, 5, none⟩ v') y.WB 36 ((wV n y).set 5 v') := Bk.set ((hkeep _ hwb.lt (by rw [ht]; decide)).trans hwb) 5 v'
  have hgr2 : (w3.setCell ⟨y.WB, 5, none⟩ v').heap[g']? = w3.heap[g']? := Below.heap_setCell _ _ _ _ hgW
  refine ⟨⟨g.n1, g.n7, fun _ => hWB, fun _ => (g.pk (by decide)).keep rfl (fun p a b _ => hp p a b), fun _ => g.tk (by decide), fun _ => g.vk (by decide), fun _ => g.lk (by decide), g.en, fun p a b _ => g.pe p a b (hp p a b), fun _ => ?_, fun _ => g.ld (by decide), fun _ => g.su (by decide), fun _ => (hold _ (by rw [ht]; decide) (by rw [ht]; decide)).trans ht, fun _ => g.tp (by decide), fun _ => g.tt (by decide), fun _ => g.tv (by decide), fun _ => g.tl (by decide), fun p a b _ => g.tow p a b (hp p a b), fun _ => g.td (by decide), fun _ => g.ts (by decide), g.lt⟩, ⟨Ag.setCell ⟨hgr.os.trans hbw.os, hgr.tape.trans hbw.tape, hgr.output.trans hbw.output, by omega, fun b q1 q2 => hkeep b q1 (fun e => by have q2 : tg b = 0 := q2; omega)⟩ (fun _ hK => by have hK : tg y.WB = 0 := hK; rw [ht] at hK; exact absurd hK (by decide)) _, fun b e => ?_⟩⟩
  · refine ⟨g', o', ds, hr.keep (fun _ => hgr2), hd, fun _ => tgOne_same _ _ _, fun i l d q1 q2 => (he i l d q1 q2).keep (fun b hb => ?_) (fun b hb => (hold b (by rw [hb]; decide) (by rw [hb]; decide)).trans hb)⟩
    have hb : tg b = 100 := hb
    exact hag.block b (h.lt b (by omega)) ⟨by omega, by omega⟩
  · by_cases eb : b = g'
    · subst eb
      exact hgt.imp (fun q => by rw [q]; decide) (fun q => q)
    · rw [tgOne_ne _ _ _ eb] at e
      exact .inl e
theorem WmX.ldTo {wb w3 : World} (h : WmAt w n tg y prs k) (hbw : Below w.heap.size w wb) {v' : Value} {g' : Nat} {xs : List Int} (hr : Row w3 3 1 v' g' xs.length (xs.map (Value.int .i64))) (hgr : wb.grownBy w3 y.dv.ownBlock) (hv' : v'.ownBlock = some g') (hg' : g' = wb.heap.size ∨ y.dv.ownBlock = some g') (hlt : g' < w3.heap.size) :
    WmAt (w3.setCell ⟨y.WB, 6, none⟩ v') n (tgOne tg g' 106) { y with dv := v' } prs { k with ld := xs } ∧ Goes tg (tgOne tg g' 106) w (w3.setCell ⟨y.WB, 6, none⟩ v') := by
  have ht := h.tW (fun h => h)
  have hwb := h.wb (fun h => h)
  have hp : ∀ p : Nat, 1 ≤ p → p ≤ n → ¬ ((p : Int) = 101 ∨ (p : Int) = 106) := fun p _ _ => by have := h.n7; omega
  have hown : ∀ b, y.dv.ownBlock = some b → tg b = 106 := fun b e => h.td (fun h => h) b e
  have hsz := hbw.size
  have hs3 := hgr.size
  have hsc : (w3.setCell ⟨y.WB, 6, none⟩ v').heap.size = w3.heap.size := by simp [World.setCell]
  have hgt : tg g' = 106 ∨ w.heap.size ≤ g' := hg'.elim (fun e => .inr (by omega)) (fun e => .inl (hown _ e))
  have hgW : g' ≠ y.WB := fun e => by
    rcases hgt with q | q
    · rw [e, ht] at q; exact absurd q (by decide)
    · have := hwb.lt; omega
  have hold : ∀ b, tg b ≠ 0 → tg b ≠ 106 → tgOne tg g' 106 b = tg b := fun b e1 e2 => tgOne_ne _ _ _ (fun e => by
    subst e
    rcases hgt with q | q
    · exact e2 q
    · have := h.lt _ e1; omega)
  have hkeep : ∀ b, b < w.heap.size → tg b ≠ 106 → w3.heap[b]? = w.heap[b]? := fun b q1 q2 => (hgr.block b (by omega) (fun e => q2 (hown b e.symm))).trans (hbw.block b q1)
  have hag : Ag (fun b => tg b ≠ 0 ∧ ¬ (tg b = 101 ∨ tg b = 106)) w (w3.setCell ⟨y.WB, 6, none⟩ v') := Ag.setCell ⟨hgr.os.trans hbw.os, hgr.tape.trans hbw.tape, hgr.output.trans hbw.output, by omega, fun b q1 q2 => hkeep b q1 (fun e => q2.2 (.inr e))⟩ (fun _ hK => hK.2 (.inl ht)) _
  have g := h.to_ (tg' := tgOne tg g' 106) (fun t => t = 101 ∨ t = 106) (fun _ h => h.elim) (by decide) hag (fun b e q => hold b e (fun e2 => q (.inr e2))) (fun b e => by
    rw [hsc]
    by_cases eb : b = g'
    · subst eb; exact hlt
    · rw [tgOne_ne _ _ _ eb] at e
      have := h.lt b e; omega)
  have hWB : Bk (w3.setCell ⟨y.WB, 6, none⟩ v') y.WB 36 ((wV n y).set 6 v') := Bk.set ((hkeep _ hwb.lt (by rw [ht]; decide)).trans hwb) 6 v'
  have hgr2 : (w3.setCell ⟨y.WB, 6, none⟩ v').heap[g']? = w3.heap[g']? := Below.heap_setCell _ _ _ _ hgW
  refine ⟨⟨g.n1, g.n7, fun _ => hWB, fun _ => (g.pk (by decide)).keep rfl (fun p a b _ => hp p a b), fun _ => g.tk (by decide), fun _ => g.vk (by decide), fun _ => g.lk (by decide), g.en, fun p a b _ => g.pe p a b (hp p a b), fun _ => g.net (by decide), fun _ => ?_, fun _ => g.su (by decide), fun _ => (hold _ (by rw [ht]; decide) (by rw [ht]; decide)).trans ht, fun _ => g.tp (by decide), fun _ => g.tt (by decide), fun _ => g.tv (by decide), fun _ => g.tl (by decide), fun p a b _ => g.tow p a b (hp p a b), fun _ b e => by rw [hv'] at e; injection e with e; subst e; exact tgOne_same _ _ _, fun _ => g.ts (by decide), g.lt⟩, ⟨Ag.setCell ⟨hgr.os.trans hbw.os, hgr.tape.trans hbw.tape, hgr.output.trans hbw.output, by omega, fun b q1 q2 => hkeep b q1 (fun e => by have q2 : tg b = 0 := q2; omega)⟩ (fun _ hK => by have hK : tg y.WB = 0 := hK; rw [ht] at hK; exact absurd hK (by decide)) _, fun b e => ?_⟩⟩
  · exact ⟨g', hr.keep (fun _ => hgr2)⟩
  · by_cases eb : b = g'
    · subst eb
      exact hgt.imp (fun q => by rw [q]; decide) (fun q => q)
    · rw [tgOne_ne _ _ _ eb] at e
      exact .inl e
theorem WmX.ldSet (h : WmAt w n tg y prs k) {g0 j : Nat} (hr : Row w 3 1 y.dv g0 k.ld.length (k.ld.map (Value.int .i64))) (hj : j < k.ld.length) (v : Int) : WmAt (w.setCell ⟨g0, j, none⟩ (.int .i64 v)) n tg y prs { k with ld := k.ld.set j v } ∧ Goes tg tg w (w.setCell ⟨g0, j, none⟩ (.int .i64 v)) := by
  have hob : y.dv.ownBlock = some g0 := by
    rcases hr.2 with ⟨_, e⟩ | ⟨cap, cur, e, _⟩
    · omega
    · rw [e]; rfl
  have ht := h.td (fun h => h) _ hob
  have hp : ∀ p : Nat, 1 ≤ p → p ≤ n → ¬ ((p : Int) = 106) := fun p _ _ => by have := h.n7; omega
  have g := h.to_ (w' := w.setCell ⟨g0, j, none⟩ (.int .i64 v)) (tg' := tg) (fun t => t = 106) (fun _ h => h.elim) (by decide) ((Ag.refl _ w).setCell (fun _ hK => hK.2 ht) _) (fun _ _ _ => rfl) (fun b e => by simp [World.setCell]; exact h.lt b e)
  have hs := hr.set j (.int .i64 v) (by omega)
  refine ⟨⟨g.n1, g.n7, fun _ => g.wb (by decide), fun _ => (g.pk (by decide)).keep rfl (fun p a b _ => hp p a b), fun _ => g.tk (by decide), fun _ => g.vk (by decide), fun _ => g.lk (by decide), g.en, fun p a b _ => g.pe p a b (hp p a b), fun _ => g.net (by decide), fun _ => ⟨g0, ?_⟩, fun _ => g.su (by decide), fun _ => g.tW (by decide), fun _ => g.tp (by decide), fun _ => g.tt (by decide), fun _ => g.tv (by decide), fun _ => g.tl (by decide), fun p a b _ => g.tow p a b (hp p a b), fun _ => h.td (fun h => h), fun _ => g.ts (by decide), g.lt⟩, ⟨(Ag.refl _ w).setCell (fun _ hK => by have hK : tg g0 = 0 := hK; rw [ht] at hK; exact absurd hK (by decide)) _, fun b e => .inl e⟩⟩
  show Row _ _ _ _ _ (k.ld.set j v).length ((k.ld.set j v).map (Value.int .i64))
  rw [List.length_set, List.map_set]
  exact hs
theorem WmX.agI (h : WmAt w n tg y prs k) {s : Nat} (h1 : 1 ≤ s) (h2 : s ≤ n) : AgI w w y.WB y.lb (n + 1) s (wV n y) y.sv (y.la s).1 (y.la s).2 (k.L s) (fun b => tg b = 100) y.sv k.su := by
  have no : ¬ False := fun h => h
  refine ⟨h.wb no, (h.lk no).cell h1 h2 trivial, h.en s h1 h2, h.su no, Ag.refl _ _, fun b e => ⟨.inl e, ?_, fun e2 => ?_, fun e2 => ?_⟩, fun b hb => ⟨h.lt b (by have hb : tg b = 100 := hb; omega), fun e2 => ?_⟩, fun e2 => ?_⟩
  · exact h.lt b (by rw [h.ts no b e]; decide)
  · have := h.ts no b e; rw [e2, h.tW no] at this; exact absurd this (by decide)
  · have := h.ts no b e; rw [e2, h.tl no] at this; exact absurd this (by decide)
  · have hb : tg b = 100 := hb
    rw [e2, h.tW no] at hb; exact absurd hb (by decide)
  · have := h.tl no; rw [e2, h.tW no] at this; exact absurd this (by decide)
theorem WmX.suTo (h : WmAt w n tg y prs k) {s : Nat} {sv' : Value} {su' : List En} (ha : AgI w w' y.WB y.lb (n + 1) s (wV n y) y.sv (y.la s).1 (y.la s).2 (k.L s) (fun b => tg b = 100) sv' su') :
    ∃ tg', WmAt w' n tg' { y with sv := sv' } prs { k with su := su' } ∧ Goes tg tg' w w' := by
  have no : ¬ False := fun h => h
  have ht := h.tW no
  have hp : ∀ p : Nat, 1 ≤ p → p ≤ n → ¬ ((p : Int) = 101 ∨ (p : Int) = 107) := fun p _ _ => by have := h.n7; omega
  have hold : ∀ b, tg b ≠ 0 → tg b ≠ 107 → (if sv'.ownBlock = some b then (107 : Int) else tg b) = tg b := fun b e1 e2 => by
    rw [if_neg]
    intro e
    rcases (ha.ow b e).1 with q | q
    · exact e2 (h.ts no b q)
    · have := h.lt b e1; omega
  have g := h.to_ (w' := w') (tg' := fun b => if sv'.ownBlock = some b then (107 : Int) else tg b) (fun t => t = 101 ∨ t = 107) (fun _ h => h.elim) (by decide) ⟨ha.ag.os, ha.ag.tape, ha.ag.output, ha.ag.size, fun b q1 q2 => ha.ag.block b q1 ⟨fun e => q2.2 (.inl (by rw [e, ht])), fun e => q2.2 (.inr (h.ts no b e))⟩⟩ (fun b e q => hold b e (fun e2 => q (.inr e2))) (fun b e => by
    split at e
    · next q => exact (ha.ow b q).2.1
    · exact Nat.lt_of_lt_of_le (h.lt b e) ha.ag.size)
  refine ⟨_, ⟨g.n1, g.n7, fun _ => ha.wb, fun _ => (g.pk (by decide)).keep rfl (fun p a b _ => hp p a b), fun _ => g.tk (by decide), fun _ => g.vk (by decide), fun _ => g.lk (by decide), g.en, fun p a b _ => g.pe p a b (hp p a b), fun _ => g.net (by decide), fun _ => g.ld (by decide), fun _ => ha.su.keep (fun b e => ⟨rfl, fun q => ?_⟩) (fun _ _ => rfl) (fun b hb => ?_), fun _ => (hold _ (by rw [ht]; decide) (by rw [ht]; decide)).trans ht, fun _ => g.tp (by decide), fun _ => g.tt (by decide), fun _ => g.tv (by decide), fun _ => g.tl (by decide), fun p a b _ => g.tow p a b (hp p a b), fun _ => g.td (by decide), fun _ b e => if_pos e, g.lt⟩, ⟨⟨ha.ag.os, ha.ag.tape, ha.ag.output, ha.ag.size, fun b q1 q2 => ha.ag.block b q1 ⟨fun e => ?_, fun e => ?_⟩⟩, fun b e => ?_⟩⟩
  · rw [if_pos e] at q; exact absurd q (by decide)
  · have hb : tg b = 100 := hb
    exact (hold b (by rw [hb]; decide) (by rw [hb]; decide)).trans hb
  · rw [e, ht] at q2; exact absurd q2 (by decide)
  · rw [h.ts no b e] at q2; exact absurd q2 (by decide)
  · split at e
    · next q =>
      rcases (ha.ow b q).1 with q' | q'
      · exact .inl (by rw [h.ts no b q']; decide)
      · exact .inr q'
    · exact .inl e
/-- The letters' slice alone turns. -/
theorem WmX.netSet (h : WmAt w n tg y prs k) {v' : Value} {ls : List (Lt En)} (hn : NetAt w tg v' ls) : WmAt (w.setCell ⟨y.WB, 5, none⟩ v') n tg { y with lv := v' } prs { k with net := ls } ∧ Goes tg tg w (w.setCell ⟨y.WB, 5, none⟩ v') := by
  have no : ¬ False := fun h => h
  have ht := h.tW no
  have hp : ∀ p : Nat, 1 ≤ p → p ≤ n → ¬ ((p : Int) = 101) := fun p _ _ => by have := h.n7; omega
  have hag : Ag (fun b => tg b ≠ 0 ∧ ¬ (tg b = 101)) w (w.setCell ⟨y.WB, 5, none⟩ v') := (Ag.refl _ w).setCell (fun _ hK => hK.2 ht) _
  have g := h.to_ (tg' := tg) (fun t => t = 101) (fun _ h => h.elim) (by decide) hag (fun _ _ _ => rfl) (fun b e => by simp [World.setCell]; exact h.lt b e)
  exact ⟨⟨g.n1, g.n7, fun _ => (h.wb no).set 5 v', fun _ => (g.pk (by decide)).keep rfl (fun p a b _ => hp p a b), fun _ => g.tk (by decide), fun _ => g.vk (by decide), fun _ => g.lk (by decide), g.en, fun p a b _ => g.pe p a b (hp p a b), fun _ => hn.keep (fun b e => ⟨hag.block b (h.lt b (by omega)) ⟨by omega, by omega⟩, rfl⟩), fun _ => g.ld (by decide), fun _ => g.su (by decide), fun _ => ht, fun _ => g.tp (by decide), fun _ => g.tt (by decide), fun _ => g.tv (by decide), fun _ => g.tl (by decide), fun p a b _ => g.tow p a b (hp p a b), fun _ => g.td (by decide), fun _ => g.ts (by decide), g.lt⟩, ⟨(Ag.refl _ w).setCell (fun _ hK => by have hK : tg y.WB = 0 := hK; rw [ht] at hK; exact absurd hK (by decide)) _, fun b e => .inl e⟩⟩
end
end Go.Proofs.Ythfofnfkopnbhaa
namespace Go.Proofs.Ythfofnfkopnbhaa
open Go.RowKit Go.Maps Go.ChangeMaps
set_option linter.unusedVariables false
set_option linter.unusedSimpArgs false
set_option linter.unusedSectionVars false
set_option maxRecDepth 100000

open Classical in
/-- A peer's marks behind its call: its own blocks; what it has left is entries. -/
noncomputable def tgCall (tg : Nat → Int) (own own' : Nat → Prop) (w w' : World) (s : Int) : Nat → Int := fun b => if own' b then s else if own b ∨ (w.heap.size ≤ b ∧ b < w'.heap.size) then 100 else tg b
section
variable {w w' : World} {n : Nat} {tg : Nat → Int} {y : Ly} {prs : Int → Pr En} {k : Kp}
theorem WmX.told (h : WmAt w n tg y prs k) {s : Nat} (h1 : 1 ≤ s) (h2 : s ≤ n) {c' : Cs En} {e : Ending} (ht : Told (y.P s) n s (y.m s) (y.P s) c' w e w') :
    ∃ lv m' tg', e = .returned (outV c' lv) ∧ WmAt w' n tg' { y with m := setAt y.m s m', frm := setAt y.frm s c'.frm } (setAt prs s c'.p) k ∧ LsAt w' (fun b => tg' b = 100) lv c'.out ∧ Goes tg tg' w w' := by
  obtain ⟨lv, m', rfl, hp', hown, hag, hls⟩ := ht
  have no : ¬ False := fun h => h
  have hn7 := h.n7
  have hto := h.tow s h1 h2 no
  have hpP : (y.m s).Own (y.P s) (y.P s) := .inl rfl
  have hag2 : Ag (fun b => ¬ (y.m s).Own (y.P s) b) w w' := ⟨hag.os, hag.tape, hag.output, hag.size, fun b q1 q2 => hag.block b q1 ⟨q2, fun e => q2 (e ▸ hpP)⟩⟩
  have hlt' := hp'.r.own
  have hnew : ∀ b, (w.heap.size ≤ b ∧ b < w'.heap.size) → tg b = 0 := fun b hb => Classical.byContradiction fun e => by have := h.lt b e; omega
  have hold : ∀ b, tg b ≠ 0 → tg b ≠ s → tgCall tg ((y.m s).Own (y.P s)) (m'.Own (y.P s)) w w' s b = tg b := fun b e1 e2 => by
    have q1 : ¬ (y.m s).Own (y.P s) b := fun q => e2 (hto b q)
    have q2 := h.lt b e1
    unfold tgCall
    rw [if_neg, if_neg]
    · rintro (q | q)
      · exact q1 q
      · omega
    · intro q
      rcases hown b q with q | q
      · exact q1 q
      · omega
  have g := h.to_ (w' := w') (tg' := tgCall tg ((y.m s).Own (y.P s)) (m'.Own (y.P s)) w w' s) (fun t => t = s) (fun _ h => h.elim) (by show ¬ (100 : Int) = s; omega) ⟨hag2.os, hag2.tape, hag2.output, hag2.size, fun b q1 q2 => hag2.block b q1 (fun e => q2.2 (hto b e))⟩ (fun b e q => hold b e q) (fun b e => by
    unfold tgCall at e
    split at e
    · next q => exact hlt' b q
    · split at e
      · next q =>
        rcases q with q | q
        · exact Nat.lt_of_lt_of_le (h.lt b (by rw [hto b q]; omega)) hag.size
        · exact q.2
      · exact Nat.lt_of_lt_of_le (h.lt b e) hag.size)
  have x : ∀ t : Int, 100 < t → ¬ t = s := fun t q => by omega
  refine ⟨lv, m', _, rfl, ⟨g.n1, g.n7, fun _ => g.wb (x _ (by decide)), fun _ => ?_, fun _ => g.tk (x _ (by decide)), fun _ => g.vk (x _ (by decide)), fun _ => g.lk (x _ (by decide)), g.en, fun p a b _ => ?_, fun _ => g.net (x _ (by decide)), fun _ => g.ld (x _ (by decide)), fun _ => g.su (x _ (by decide)), fun _ => g.tW (x _ (by decide)), fun _ => g.tp (x _ (by decide)), fun _ => g.tt (x _ (by decide)), fun _ => g.tv (x _ (by decide)), fun _ => g.tl (x _ (by decide)), fun p a b _ => ?_, fun _ => g.td (x _ (by decide)), fun _ => g.ts (x _ (by decide)), g.lt⟩, hls.keep (fun _ _ => rfl) (fun b hb => ?_), ⟨⟨hag2.os, hag2.tape, hag2.output, hag2.size, fun b q1 q2 => hag2.block b q1 (fun e => by have := hto b e; have q2 : tg b = 0 := q2; omega)⟩, fun b e => ?_⟩⟩
  · have := (h.pk no).keep (w' := w') (G' := fun s => ¬ False) (hag2.block _ (h.pk no).lt (fun e => by have := hto _ e; rw [h.tp no] at this; omega)) (fun p a b h => h)
    exact this
  · by_cases e : (p : Int) = s
    · obtain rfl : p = s := by omega
      show PeA w' (y.P p) n p (setAt y.m p m' p) (fun _ => False) ⟨setAt prs p c'.p p, setAt y.frm p c'.frm p, []⟩
      rw [setAt_same, setAt_same, setAt_same]
      exact hp'
    · show PeA w' (y.P p) n p (setAt y.m s m' p) (fun _ => False) ⟨setAt prs s c'.p p, setAt y.frm s c'.frm p, []⟩
      rw [setAt_ne _ _ e, setAt_ne _ _ e, setAt_ne _ _ e]
      exact g.pe p a b e
  · show ∀ c, (setAt y.m s m' p).Own (y.P p) c → _
    by_cases e : (p : Int) = s
    · obtain rfl : p = s := by omega
      rw [setAt_same]
      intro c hc
      unfold tgCall
      rw [if_pos hc]
    · rw [setAt_ne _ _ e]
      exact g.tow p a b e
  · obtain ⟨q1, q2, q3⟩ := hb
    show tgCall _ _ _ _ _ _ b = 100
    unfold tgCall
    rw [if_neg q2, if_pos (q3.imp (fun q => q) (fun q => ⟨q, q1⟩))]
  · unfold tgCall at e
    split at e
    · next q =>
      rcases hown b q with q | q
      · exact .inl (by rw [hto b q]; omega)
      · exact .inr q
    · split at e
      · next q =>
        rcases q with q | q
        · exact .inl (by rw [hto b q]; omega)
        · exact .inr q.1
      · exact .inl e
end
end Go.Proofs.Ythfofnfkopnbhaa
namespace Go.Proofs.Ythfofnfkopnbhaa
open Go.RowKit Go.Maps Go.ChangeMaps
set_option linter.unusedVariables false
set_option linter.unusedSimpArgs false
set_option linter.unusedSectionVars false
set_option maxRecDepth 100000

/-- What is kept behind a server's telling. -/
def tookK (k : Kp) (s : Int) (c : Cs En) : Kp :=
  ⟨setAt k.T s c.p.T, setAt k.V s c.p.V, setAt k.L s c.p.log, k.net ++ c.out, if c.p.role = 3 then (padL k.ld (c.p.T.toNat + 1)).set c.p.T.toNat s else padL k.ld (c.p.T.toNat + 1), k.su ++ (c.p.log.take c.p.C.toNat).drop k.su.length⟩
theorem Goes.zero {tg tg' : Nat → Int} {w w' : World} (h : Goes tg tg' w w') {b : Nat} (h0 : tg b = 0) (hb : b < w.heap.size) : tg' b = 0 := Classical.byContradiction fun e => (h.new b e).elim (fun q => q h0) (fun q => by omega)
theorem Goes.bk {tg tg' : Nat → Int} {w w' : World} (h : Goes tg tg' w w') {b : Nat} {t : TypeId} {cs : List Value} (h0 : tg b = 0) (hb : Bk w b t cs) : Bk w' b t cs := hb.ag h.ag h0
theorem rowL_one : ∀ (ls : List (Lt En)) (ds : List (Option Addr × Nat)), ∀ u ∈ rowL ls ds, u.oneCell' = true
  | [], _, u, hu => by simp [rowL] at hu
  | l :: ls, [], u, hu => by simp [rowL] at hu
  | l :: ls, d :: ds, u, hu => by
    simp only [rowL, List.mem_append] at hu
    rcases hu with hu | hu
    · exact ltV_one _ _ _ _ u hu
    · exact rowL_one ls ds u hu
theorem step_append_none {P : Program} (w : World) {ops : Array Oper} {o : Oper} {a : Act} {K : Act → World → Prop} {Q : Exit → Act → World → Prop} {E : Prop} (hgd : o.guard = none) (s x : Operand) (t : TypeId)
    (ho : o.op = .call { callee := .builtin .append, args := #[s, x], argTypes := #[t, t] }) (e : TypeId) (i : TypeInfo) (ht : P.underlying t = some (.slice e)) (hi : P.info? e = some i)
    (A B : Option Addr) (n cap c m : Nat) (hn : n ≤ cap) (hm : m = 0) (hs : a.eval s = .slice A n cap) (hx : a.eval x = .slice B m c) (h : K (a.put o.dst (.slice A n cap)) w) :
    if Region.wanted o (yielded ops a.tmps) = true then Oper.wp P o a w K Q else E := by
  have hw : Region.wanted o (yielded ops a.tmps) = true := by simp [Region.wanted, hgd]
  rw [if_pos hw]
  subst hm
  have hr := run_append_none (P := P) w t o.type e i ht hi A B n cap c hn
  unfold Oper.wp execOp
  simp only [ho, resolve, invoke, builtin, Sem.run_bind, Sem.run_pure, Result.andThen_ok, List.map_toArray, List.map_cons, List.map_nil, hs, hx, hr]
  exact h
theorem ls_far {w : World} {K : Nat → Prop} {v : Value} {ls : List (Lt En)} (h : LsAt w K v ls) {p : Addr} (hp : ¬ K p.block) (u : Value) : LsAt (w.setCell p u) K v ls := h.keep (fun b hb => Below.heap_setCell _ _ _ _ (fun e => hp (e ▸ hb))) (fun _ h => h)
theorem addr0 (g j : Nat) : (⟨g, 0, none⟩ : Addr).add j = ⟨g, j, none⟩ := by unfold Addr.add; split <;> simp_all
theorem below_drew (w : World) : Below w.heap.size w w.drew := (Below.refl _ w).drew
section
variable {w w' : World} {n : Nat} {tg : Nat → Int} {y : Ly} {prs : Int → Pr En} {k : Kp}
theorem WmX.cells (h : WmAt w n tg y prs k) : w.cell? ⟨y.WB, 0, none⟩ = some (.int .i64 n) ∧ w.cell? ⟨y.WB, 1, none⟩ = some (.slice (some ⟨y.pb, 0, none⟩) (n + 1) (n + 1)) ∧ w.cell? ⟨y.WB, 2, none⟩ = some (.slice (some ⟨y.tb, 0, none⟩) (n + 1) (n + 1)) ∧ w.cell? ⟨y.WB, 3, none⟩ = some (.slice (some ⟨y.vb, 0, none⟩) (n + 1) (n + 1)) ∧ w.cell? ⟨y.WB, 4, none⟩ = some (.slice (some ⟨y.lb, 0, none⟩) (n + 1) (n + 1)) ∧ w.cell? ⟨y.WB, 5, none⟩ = some y.lv ∧ w.cell? ⟨y.WB, 6, none⟩ = some y.dv ∧ w.cell? ⟨y.WB, 7, none⟩ = some y.sv := by
  have hc := (h.wb (fun h => h)).cell
  exact ⟨hc 0, hc 1, hc 2, hc 3, hc 4, hc 5, hc 6, hc 7⟩
theorem from_all (es : List En) (h : es.length ≤ 1000) : (fromI es 1).take (Int.toNat 1073741824) = es := by
  rw [from_is]
  unfold fromP
  split
  · rw [show ((1 : Int) - 1).toNat = 0 from rfl, List.drop_zero, List.take_of_length_le]
    have : Int.toNat 1073741824 = 1073741824 := rfl
    omega
  · next q =>
    cases es with
    | nil => rfl
    | cons e es => exfalso; apply q; rw [List.length_cons]; omega
/-- What a server told is as the law asks it to be. -/
structure TkOk (k : Kp) (s : Nat) (c : Cs En) : Prop where
  t1 : k.T s ≤ c.p.T
  t0 : 0 ≤ c.p.T
  t2 : c.p.T < 10000
  v : c.p.T = k.T s → k.V s ≠ 0 → c.p.V = k.V s
  f : c.frm = 0 → c.p.log.length = (k.L s).length
  ld : c.p.role = 3 → ∀ v, (padL k.ld (c.p.T.toNat + 1))[c.p.T.toNat]? = some v → v = 0 ∨ v = s
  c0 : 0 ≤ c.p.C
  c1 : c.p.C ≤ c.p.log.length
  su : ∀ i, i < c.p.C.toNat → i < k.su.length → k.su[i]? = c.p.log[i]?
  len : c.p.log.length ≤ 1000
  out : c.out.length ≤ 1000
  net : k.net.length ≤ 1000
  ldl : k.ld.length ≤ 10000
  sul : k.su.length ≤ 1000
  dat : ∀ e ∈ c.p.log, e.data.length ≤ 100000000
  kl : (k.L s).length ≤ 1000
end
end Go.Proofs.Ythfofnfkopnbhaa
