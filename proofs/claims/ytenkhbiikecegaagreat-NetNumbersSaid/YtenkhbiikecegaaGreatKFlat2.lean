/- The phases of marking and growing lists: no program. -/
import Derived.Test.YtenkhbiikecegaaGreatKFlat
namespace Go.Proofs.YtenkhbiikecegaaGreat
open Go.RowKit
set_option linter.unusedVariables false
set_option maxRecDepth 100000

/-- These values are stored from cell j of block b on. -/
def sets (w : World) (b : Nat) : Nat → List Value → World
  | _, [] => w
  | j, u :: us => sets (w.setCell ⟨b, j, none⟩ u) b (j + 1) us
def setsL (l : List Value) : Nat → List Value → List Value
  | _, [] => l
  | j, u :: us => setsL (l.set j u) (j + 1) us
theorem setsL_len (us : List Value) : ∀ (l : List Value) (j : Nat), (setsL l j us).length = l.length := by
  induction us with
  | nil => intro l j; rfl
  | cons u us ih => intro l j; rw [setsL, ih]; simp
theorem setsL_take (us : List Value) : ∀ (l : List Value) (j : Nat), j + us.length ≤ l.length → (setsL l j us).take (j + us.length) = l.take j ++ us := by
  induction us with
  | nil => intro l j _; simp [setsL]
  | cons u us ih =>
    intro l j h
    simp only [List.length_cons] at h
    have h1 : j + (u :: us).length = j + 1 + us.length := by simp; omega
    rw [setsL, h1, ih _ _ (by simp; omega)]
    have h2 : j < l.length := by omega
    have h3 : (l.set j u).take (j + 1) = l.take j ++ [u] := by
      rw [List.take_add_one, List.take_set_of_le (by omega)]
      simp [h2]
    rw [h3]
    simp
theorem sets_size (us : List Value) : ∀ (w : World) (b j : Nat), (sets w b j us).heap.size = w.heap.size := by
  induction us with
  | nil => intro w b j; rfl
  | cons u us ih => intro w b j; rw [sets, ih]; simp [World.setCell]
theorem sets_ag (K : Nat → Prop) (us : List Value) : ∀ (w0 w : World) (b j : Nat), Ag K w0 w → (b < w0.heap.size → ¬ K b) → Ag K w0 (sets w b j us) := by
  induction us with
  | nil => intro w0 w b j h _; exact h
  | cons u us ih => intro w0 w b j h hb; rw [sets]; exact ih _ _ _ _ (h.setCell hb u) hb
/-- .. of list k. -/
def updL (C : Nat → List Value) (k j : Nat) (us : List Value) : Nat → List Value := fun q => if q = k then setsL (C k) j us else C q
theorem Fl.sets {e : TypeId} {size : Nat} {S : Nat → Prop} {ls : List Fs} {k : Nat} {x : Fs} (hx : ls[k]? = some x) (us : List Value) : ∀ (w : World) (C : Nat → List Value) (j : Nat), Fl w e size S ls C → j + us.length ≤ x.n * size →
    Fl (sets w x.b j us) e size S ls (updL C k j us) := by
  induction us with
  | nil => intro w C j h _; exact h.eq (fun q y _ => by unfold updL setsL; split <;> simp_all)
  | cons u us ih =>
    intro w C j h hj
    simp only [List.length_cons] at hj
    rw [Go.Proofs.YtenkhbiikecegaaGreat.sets]
    refine (ih _ _ (j + 1) (h.set hx j u (by omega)) (by omega)).eq (fun q y _ => ?_)
    unfold updL updC
    by_cases hq : q = k
    · simp only [hq, if_true]; rfl
    · simp [hq]

/-- What each list has when it is marked. -/
def mksOf (mk : Nat → Nat → List Value) (ls : List Fs) (q : Nat) : List Value := match ls[q]? with | some x => mks mk q x.n | none => []
theorem mksOf_at {mk : Nat → Nat → List Value} {ls : List Fs} {q : Nat} {x : Fs} (h : ls[q]? = some x) : mksOf mk ls q = mks mk q x.n := by unfold mksOf; rw [h]
/-- Lists are marked up to the j-th element of list k. -/
def Ph1 (mk : Nat → Nat → List Value) (e : TypeId) (size : Nat) (S : Nat → Prop) (ls : List Fs) (w : World) (k j : Nat) (wr : World) : Prop :=
  ∃ C : Nat → List Value, Fl wr e size S ls C ∧ (∀ (q : Nat) (x : Fs), q < k → ls[q]? = some x → C q = mks mk q x.n) ∧ (C k).take (j * size) = mks mk k j ∧ Ag (fun b => ¬ S b) w wr
section
variable {mk : Nat → Nat → List Value} {e : TypeId} {size : Nat} {S : Nat → Prop} {ls : List Fs} {w wr : World}
theorem Ph1.start {C : Nat → List Value} (h : Fl w e size S ls C) : Ph1 mk e size S ls w 0 0 w := ⟨C, h, fun q x hq => absurd hq (by omega), by simp [mks], Ag.refl _ _⟩
theorem Ph1.next {k : Nat} {x : Fs} (h : Ph1 mk e size S ls w k x.n wr) (hx : ls[k]? = some x) : Ph1 mk e size S ls w (k + 1) 0 wr := by
  obtain ⟨C, h1, h2, h3, h4⟩ := h
  refine ⟨C, h1, fun q y hq hy => ?_, by simp [mks], h4⟩
  by_cases hqk : q = k
  · subst hqk
    have : y = x := by rw [hx] at hy; injection hy with hy; exact hy.symm
    subst this
    rw [← h3, List.take_of_length_le (by rw [(h1.row q y hy).1]; omega)]
  · exact h2 q y (by omega) hy
theorem Ph1.done {j : Nat} (h : Ph1 mk e size S ls w ls.length j wr) : Fl wr e size S ls (mksOf mk ls) ∧ Ag (fun b => ¬ S b) w wr := by
  obtain ⟨C, h1, h2, h3, h4⟩ := h
  exact ⟨h1.eq (fun q y hy => by rw [mksOf_at hy]; exact h2 q y (List.getElem?_eq_some_iff.1 hy).1 hy), h4⟩
theorem Ph1.shape {k j : Nat} {x : Fs} (h : Ph1 mk e size S ls w k j wr) (hx : ls[k]? = some x) : ∃ A c, x.v = .slice A x.n c ∧ x.n ≤ c ∧ c ≤ maxLen ∧ (0 < x.n → A = some ⟨x.b, 0, none⟩) := by
  obtain ⟨C, h1, _⟩ := h
  exact (h1.row k x hx).shape
theorem Row.bk {v : Value} {g n : Nat} {xs : List Value} (h : Row w e size v g n xs) (hn : 0 < n) : ∃ cur, w.heap[g]? = some (.cells cur e (0, 0)) ∧ cur.toList.take (n * size) = xs := by
  rcases h.2 with ⟨_, h0⟩ | ⟨cap, cur, _, hg, _, _, h3, _⟩
  · omega
  · exact ⟨cur, hg, h3⟩
theorem Row.get {v : Value} {g n : Nat} {xs : List Value} (h : Row w e size v g n xs) {i : Nat} (hi : i < n * size) : w.cell? ⟨g, i, none⟩ = xs[i]? ∧ w.frozen? ⟨g, i, none⟩ = false := by
  have hn : 0 < n := by rcases Nat.eq_zero_or_pos n with h0 | h0; (rw [h0] at hi; simp at hi); exact h0
  obtain ⟨cur, hg, h3⟩ := h.bk hn
  refine ⟨?_, frozen_blk hg i⟩
  rw [cell_of_row w g i cur e (0, 0) hg, ← h3, List.getElem?_take, if_pos hi]
  simp
theorem Row.some_ {v : Value} {g n : Nat} {xs : List Value} (h : Row w e size v g n xs) {i : Nat} (hi : i < n * size) : ∃ u, w.cell? ⟨g, i, none⟩ = some u := by
  rw [(h.get hi).1]
  exact ⟨_, List.getElem?_eq_getElem (by rw [h.1]; exact hi)⟩
theorem Ph1.cells {k j : Nat} {x : Fs} (h : Ph1 mk e size S ls w k j wr) (hx : ls[k]? = some x) {i : Nat} (hi : i < x.n * size) : (∃ u, wr.cell? ⟨x.b, i, none⟩ = some u) ∧ wr.frozen? ⟨x.b, i, none⟩ = false := by
  obtain ⟨C, h1, _⟩ := h
  exact ⟨(h1.row k x hx).some_ hi, ((h1.row k x hx).get hi).2⟩
theorem Fl.xb {C : Nat → List Value} (h : Fl wr e size S ls C) {k : Nat} {x : Fs} (hx : ls[k]? = some x) (hn : 0 < x.n) : x.v.ownBlock = some x.b := by
  rcases (h.row k x hx).2 with ⟨_, h0⟩ | ⟨cap, cur, e1, _⟩
  · omega
  · rw [e1]; rfl
theorem Ph1.step (hm : ∀ k i, (mk k i).length = size) {k j : Nat} {x : Fs} (h : Ph1 mk e size S ls w k j wr) (hS : ∀ b, S b → b < w.heap.size) (hx : ls[k]? = some x) (hj : j < x.n) : Ph1 mk e size S ls w k (j + 1) (sets wr x.b (j * size) (mk k j)) := by
  obtain ⟨C, h1, h2, h3, h4⟩ := h
  have hle : (j + 1) * size ≤ x.n * size := Nat.mul_le_mul_right _ hj
  rw [Nat.succ_mul] at hle
  refine ⟨_, Fl.sets hx (mk k j) wr C (j * size) h1 (by rw [hm]; exact hle), fun q y hq hy => ?_, ?_, sets_ag _ _ _ _ _ _ h4 (fun _ hn => hn (h1.own k x hx (h1.xb hx (by omega))).1)⟩
  · unfold updL
    rw [if_neg (by omega)]
    exact h2 q y hq hy
  · unfold updL
    rw [if_pos rfl, mks_succ, ← h3]
    have := setsL_take (mk k j) (C k) (j * size) (by rw [hm, (h1.row k x hx).1]; exact hle)
    rw [hm] at this
    rw [Nat.succ_mul]
    exact this
theorem Ph1.below {wr' : World} {k j : Nat} (h : Ph1 mk e size S ls w k j wr) (hb : Below wr.heap.size wr wr') : Ph1 mk e size S ls w k j wr' := by
  obtain ⟨C, h1, h2, h3, h4⟩ := h
  exact ⟨C, h1.below hb, h2, h3, h4.trans (Ag.of_below _ hb)⟩

/-- The lists' slices, which lie outside S. -/
structure Outer (w : World) (S : Nat → Prop) (A : Option Addr) (c : Nat) (ls : List Fs) : Prop where
  rd : Rd w (fun b => ¬ S b ∧ b < w.heap.size) A c (ls.map (·.v))
  le : ls.length ≤ c
  mx : c ≤ maxLen
theorem Outer.at_ {A : Option Addr} {c : Nat} (h : Outer w S A c ls) (ha : Ag (fun b => ¬ S b) w wr) {k : Nat} (hk : k < ls.length) : ∃ a x, A = some a ∧ Hid (ls[k]? = some x) ∧ wr.cell? (a.add k) = some x.v := by
  obtain ⟨a, e1, ⟨h1, h2⟩, h3⟩ := h.rd.2 (by intro e; have := congrArg List.length e; simp at this; rw [this] at hk; simp at hk)
  refine ⟨a, ls[k], e1, List.getElem?_eq_getElem hk, ?_⟩
  exact (World.cell?_of_block (by rw [add_blk]; exact ha.block _ h2 h1)).trans (h3 k _ (by simp [hk]))

theorem Ph1.ag {k j : Nat} (h : Ph1 mk e size S ls w k j wr) : Ag (fun b => ¬ S b) w wr := by
  obtain ⟨C, h1, h2, h3, h4⟩ := h
  exact h4
theorem Outer.list {A : Option Addr} {c : Nat} {C : Nat → List Value} (h : Outer w S A c ls) (ha : Ag (fun b => ¬ S b) w wr) (hF : Fl wr e size S ls C) {k : Nat} (hk : k < ls.length) :
    ∃ a x A' c', A = some a ∧ Hid (ls[k]? = some x) ∧ wr.cell? (a.add k) = some (.slice A' x.n c') ∧ x.n ≤ c' ∧ c' ≤ maxLen ∧ (0 < x.n → A' = some ⟨x.b, 0, none⟩) ∧ Hid (x.v = .slice A' x.n c') := by
  obtain ⟨a, x, e1, e2, e3⟩ := h.at_ ha hk
  obtain ⟨A', c', q1, q2, q3, q4⟩ := (hF.row k x e2).shape
  exact ⟨a, x, A', c', e1, e2, by rw [e3, q1], q2, q3, q4, q1⟩
theorem Ph1.list {A : Option Addr} {c k j : Nat} (hP : Ph1 mk e size S ls w k j wr) (h : Outer w S A c ls) (hk : k < ls.length) :
    ∃ a x A' c', A = some a ∧ Hid (ls[k]? = some x) ∧ wr.cell? (a.add k) = some (.slice A' x.n c') ∧ x.n ≤ c' ∧ c' ≤ maxLen ∧ (0 < x.n → A' = some ⟨x.b, 0, none⟩) ∧ Hid (x.v = .slice A' x.n c') := by
  obtain ⟨C, h1, h2, h3, h4⟩ := hP
  exact h.list h4 h1 hk

/-- Lists have grown up to list k: what they have grown into lies in block G; each has its marks, and X. -/
def Ph2 (mk : Nat → Nat → List Value) (e : TypeId) (size : Nat) (S : Nat → Prop) (ls : List Fs) (T : TypeId) (X : Nat → Fs → List Value) (w : World) (G k : Nat) (wr : World) : Prop :=
  Fl wr e size S ls (mksOf mk ls) ∧ Ag (fun b => ¬ S b) w wr ∧ ∃ us : List Value, us.length = ls.length ∧ Bk wr G T us ∧
    ∀ (j : Nat) (x : Fs), j < k → ls[j]? = some x → ∃ u gb, us[j]? = some u ∧ GRow wr e size w.heap.size G x u gb (x.n + 64) (X j x)
variable {T : TypeId} {X X' : Nat → Fs → List Value} {G k : Nat}
theorem Ph2.start {us : List Value} (h : Fl wr e size S ls (mksOf mk ls)) (ha : Ag (fun b => ¬ S b) w wr) (hu : us.length = ls.length) (hb : Bk wr G T us) : Ph2 mk e size S ls T X w G 0 wr :=
  ⟨h, ha, us, hu, hb, fun j x hj => absurd hj (by omega)⟩
theorem Ph2.again (h : Ph2 mk e size S ls T X w G k wr) : Ph2 mk e size S ls T X' w G 0 wr := by
  obtain ⟨h1, h2, us, h3, h4, _⟩ := h
  exact ⟨h1, h2, us, h3, h4, fun j x hj => absurd hj (by omega)⟩
theorem Ph2.below {wr' : World} (h : Ph2 mk e size S ls T X w G k wr) (hb : Below wr.heap.size wr wr') : Ph2 mk e size S ls T X w G k wr' := by
  obtain ⟨h1, h2, us, h3, h4, h5⟩ := h
  refine ⟨h1.below hb, h2.trans (Ag.of_below _ hb), us, h3, (hb.block G h4.lt).trans h4, fun j x hj hx => ?_⟩
  obtain ⟨u, gb, e1, e2⟩ := h5 j x hj hx
  exact ⟨u, gb, e1, e2.keep hb.size (hb.block gb e2.lt)⟩
theorem Ph2.list {A : Option Addr} {c q : Nat} (hP : Ph2 mk e size S ls T X w G k wr) (h : Outer w S A c ls) (hk : q < ls.length) :
    ∃ a x A' c', A = some a ∧ Hid (ls[q]? = some x) ∧ wr.cell? (a.add q) = some (.slice A' x.n c') ∧ x.n ≤ c' ∧ c' ≤ maxLen ∧ (0 < x.n → A' = some ⟨x.b, 0, none⟩) ∧ Hid (x.v = .slice A' x.n c') := by
  obtain ⟨h1, h2, _⟩ := hP
  exact h.list h2 h1 hk
theorem Ph2.g (h : Ph2 mk e size S ls T X w G k wr) : G < wr.heap.size := by
  obtain ⟨_, _, us, _, h4, _⟩ := h
  exact h4.lt
/-- One list more has grown. -/
theorem Ph2.step {wo w3 : World} {x : Fs} {u : Value} {gb i : Nat} {xs : List Value} (h : Ph2 mk e size S ls T X w G k wo) (hG : w.heap.size ≤ G) (hS : ∀ b, S b → b < w.heap.size) (hx : ls[k]? = some x) (hI : Inn wo w3 e size x u gb i xs) (hF : Fl w3 e size S ls (mksOf mk ls)) (hi : i = 64) (hX : xs = X k x) :
    Ph2 mk e size S ls T X w G (k + 1) (w3.setCell ⟨G, k, none⟩ u) := by
  subst hi hX
  obtain ⟨h1, h2, us, h3, h4, h5⟩ := h
  have hkl := (List.getElem?_eq_some_iff.1 hx).1
  have hSG : ∀ b, S b → b ≠ G := fun b hb => by have := hS b hb; omega
  have hGk : w3.heap[G]? = wo.heap[G]? := hI.ag.block G h4.lt (fun ⟨e1, e2⟩ => hSG _ (h1.own k x hx e2).1 e1.symm)
  have h4' : Bk w3 G T us := hGk.trans h4
  have hsz : (w3.setCell ⟨G, k, none⟩ u).heap.size = w3.heap.size := by simp [World.setCell]
  have hN : w.heap.size ≤ wo.heap.size := h2.size
  have hag3 : Ag (fun b => ¬ S b) w w3 := h2.trans (hI.ag.mono (fun b _ hb ⟨e1, e2⟩ => hb (by rw [e1]; exact (h1.own k x hx e2).1)))
  refine ⟨hF.keep (fun b hb _ => Below.heap_setCell _ _ _ _ (hSG b hb)) (by omega), hag3.setCell (fun h => by simp only [] at h; omega) _, us.set k u, by simpa using h3, h4'.set k u, fun j y hj hy => ?_⟩
  by_cases hjk : j = k
  · subst hjk
    have : y = x := by rw [hx] at hy; injection hy with hy; exact hy.symm
    subst this
    have hd := hI.done (N := w.heap.size) (G := G) (by omega) (fun e => (hF.own j y hy e).2) hN h4.lt
    refine ⟨u, gb, by simp [h3, hkl], hd.keep (by omega) (Below.heap_setCell _ _ _ _ ?_)⟩
    show gb ≠ G
    rcases hd.at_ with ⟨e1, e2⟩ | ⟨_, e2⟩
    · rw [e1]; exact hSG _ (hF.own j y hy e2).1
    · exact e2
  · obtain ⟨v, gv, e1, e2⟩ := h5 j y (by omega) hy
    have e3 := e2.other h1 hS hx hy hjk hI.ag
    refine ⟨v, gv, by rw [List.getElem?_set_ne (fun h => hjk h.symm)]; exact e1, e3.keep (by omega) (Below.heap_setCell _ _ _ _ ?_)⟩
    show gv ≠ G
    rcases e3.at_ with ⟨q1, q2⟩ | ⟨_, q2⟩
    · rw [q1]; exact hSG _ (h1.own j y hy q2).1
    · exact q2
/-- What is read of a list and of what it has grown into. -/
theorem Ph2.at_ {j : Nat} {x : Fs} (h : Ph2 mk e size S ls T X w G k wr) (hj : j < k) (hx : ls[j]? = some x) : ∃ gb cap, wr.cell? ⟨G, j, none⟩ = some (.slice (some ⟨gb, 0, none⟩) (x.n + 64) cap) ∧ x.n + 64 ≤ cap ∧ cap ≤ maxLen ∧
    (∀ i, i < (x.n + 64) * size → wr.cell? ⟨gb, i, none⟩ = (X j x)[i]?) ∧ ∀ i, i < x.n * size → wr.cell? ⟨x.b, i, none⟩ = (mks mk j x.n)[i]? := by
  obtain ⟨h1, h2, us, h3, h4, h5⟩ := h
  obtain ⟨u, gb, e1, e2⟩ := h5 j x hj hx
  obtain ⟨A, c, q1, q2, q3, q4⟩ := e2.row.shape
  have := q4 (by omega)
  subst this
  refine ⟨gb, c, by rw [h4.cell, e1, q1], q2, q3, fun i hi => (e2.row.get hi).1, fun i hi => ?_⟩
  rw [((h1.row j x hx).get hi).1, mksOf_at hx]
end
theorem below_drewN (w : World) (n : Nat) : Below w.heap.size w (w.drewN n) := ⟨rfl, rfl, rfl, Nat.le_refl _, fun _ _ => rfl⟩
theorem Ph2.gcell {mk : Nat → Nat → List Value} {e : TypeId} {size : Nat} {S : Nat → Prop} {ls : List Fs} {T : TypeId} {X : Nat → Fs → List Value} {w wo w3 : World} {G k q : Nat} {x : Fs} {u : Value} {gb i : Nat} {xs : List Value}
    (h : Ph2 mk e size S ls T X w G k wo) (hG : w.heap.size ≤ G) (hS : ∀ b, S b → b < w.heap.size) (hx : ls[q]? = some x) (hI : Inn wo w3 e size x u gb i xs) : (∃ u, w3.cell? ⟨G, q, none⟩ = some u) ∧ w3.frozen? ⟨G, q, none⟩ = false := by
  obtain ⟨h1, h2, us, h3, h4, h5⟩ := h
  have hGk : w3.heap[G]? = wo.heap[G]? := hI.ag.block G h4.lt (fun ⟨e1, e2⟩ => by have := hS _ (h1.own q x hx e2).1; omega)
  have h4' : Bk w3 G T us := hGk.trans h4
  have := (List.getElem?_eq_some_iff.1 hx).1
  exact ⟨⟨_, by rw [h4'.cell]; exact List.getElem?_eq_getElem (by omega)⟩, frozen_blk h4' q⟩
theorem Inn.lt {wo wr : World} {e : TypeId} {size : Nat} {S : Nat → Prop} {ls : List Fs} {C : Nat → List Value} {k : Nat} {x : Fs} {u : Value} {gb i : Nat} {xs : List Value} (hI : Inn wo wr e size x u gb i xs) (hF : Fl wr e size S ls C) (hx : ls[k]? = some x) (hu : u.ownBlock = some gb) : gb < wr.heap.size := by
  rcases hI.at_ with ⟨h1, h2, h3⟩ | ⟨h1, cap, h2, h3⟩ | ⟨h1, h2, h3⟩
  · rw [h1]; exact (hF.own k x hx (by rw [← h3, ← h1]; exact hu)).2
  · rw [h1]; exact (hF.own k x hx (by rw [h2]; rfl)).2
  · exact h2
theorem still_of {P : Program} {f : FuncId} {args : Array Value} {w : World} {v : Value} (h : Calls P f args w fun e w' => e = .returned v ∧ w = w') : Calls P f args w fun e w'' => e = .returned v ∧ w'' = w :=
  h.mono fun _ _ h => ⟨h.1, h.2.symm⟩
end Go.Proofs.YtenkhbiikecegaaGreat
