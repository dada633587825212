/- A net in memory. -/
import Derived.Test.YtenkhbiikecegaaGreatNBase
namespace Go.Proofs.YtenkhbiikecegaaGreat
open Go.RowKit Go.Maps Go.ChangeMaps
set_option linter.unusedVariables false
set_option maxRecDepth 100000

/-- A packet: the slice that holds it, its bytes. -/
structure PV where
  A : Option Addr
  c : Nat
  l : List Int
def PV.val (p : PV) : Value := .slice p.A p.l.length p.c
/-- A link's row: block, capacity, packets. -/
structure NRow where
  a : Int
  b : Int
  g : Nat
  cap : Nat
  ps : List PV
def NRow.val (r : NRow) : Value := .slice (some ⟨r.g, 0, none⟩) r.ps.length r.cap
def NRow.key (r : NRow) : Value := linkV r.a r.b
/-- A net: the map's block, the rows. -/
structure NSt where
  m : Nat
  rows : List NRow
/-- Two packets lie in blocks of their own. -/
def PSep (p q : PV) : Prop := ∀ k, p.val.ownBlock = some k → q.val.ownBlock ≠ some k
/-- Two rows lie apart. -/
def RSep (r s : NRow) : Prop := r.g ≠ s.g ∧ ∀ p ∈ r.ps, ∀ q ∈ s.ps, PSep p q
theorem PSep.symm {p q : PV} (h : PSep p q) : PSep q p := fun k h1 h2 => h k h2 h1
theorem RSep.symm {r s : NRow} (h : RSep r s) : RSep s r := ⟨fun e => h.1 e.symm, fun p hp q hq => (h.2 q hq p hp).symm⟩
/-- A row lies in memory; its packets in blocks of K. -/
structure RowAt (w : World) (K : Nat → Prop) (r : NRow) : Prop where
  ia : I64 r.a
  ib : I64 r.b
  ne : r.ps ≠ []
  few : r.ps.length ≤ 64
  le : r.ps.length ≤ r.cap
  max : r.cap ≤ maxLen
  bk : ∃ ext, Bk w r.g 28 (r.ps.map PV.val ++ ext) ∧ (r.ps.map PV.val ++ ext).length = r.cap
  dat : ∀ p ∈ r.ps, Dat w K p.A p.c p.l ∧ p.l.length ≤ 262144
  pap : r.ps.Pairwise PSep
/-- A net lies in memory: its struct in block N. -/
structure NetAt (w : World) (K : Nat → Prop) (N : Nat) (st : NSt) : Prop where
  net : Bk w N 48 [.map (some st.m)]
  map : ∃ es clock, w.heap[st.m]? = some (.map es.toArray clock) ∧ EsOk Tryz.prog 58 es clock ∧ es.map (fun e => (e.key, e.val)) = st.rows.map (fun r => (r.key, r.val))
  row : ∀ r ∈ st.rows, RowAt w K r
  apart : st.rows.Pairwise RSep
/-- What a net may write. -/
def NOwn (st : NSt) (k : Nat) : Prop := k = st.m ∨ ∃ r ∈ st.rows, r.g = k
/-- The packets of a link. -/
def rowOf (st : NSt) (a b : Int) : Option NRow := st.rows.find? fun r => decide (r.a = a ∧ r.b = b)
def sig (st : NSt) (a b : Int) : List PV := match rowOf st a b with
  | some r => r.ps
  | none => []
theorem RowAt.keep {w w' : World} {K K' : Nat → Prop} {r : NRow} (h : RowAt w K r) (hg : w'.heap[r.g]? = w.heap[r.g]?) (hk : ∀ b, K b → b < w.heap.size → w'.heap[b]? = w.heap[b]?) (hs : w.heap.size ≤ w'.heap.size) (hK : ∀ b, K b → b < w.heap.size → K' b) : RowAt w' K' r :=
  ⟨h.ia, h.ib, h.ne, h.few, h.le, h.max, h.bk.elim fun e k => ⟨e, hg.trans k.1, k.2⟩, fun p hp => ⟨(h.dat p hp).1.keep hk hs hK, (h.dat p hp).2⟩, h.pap⟩
theorem NetAt.mlt {w : World} {K : Nat → Prop} {N : Nat} {st : NSt} (h : NetAt w K N st) : st.m < w.heap.size := by
  obtain ⟨es, c, h1, _⟩ := h.map
  exact (Array.getElem?_eq_some_iff.1 h1).1
theorem NetAt.glt {w : World} {K : Nat → Prop} {N : Nat} {st : NSt} (h : NetAt w K N st) {r : NRow} (hr : r ∈ st.rows) : r.g < w.heap.size := (h.row r hr).bk.elim fun _ k => k.1.lt
theorem NetAt.olt {w : World} {K : Nat → Prop} {N : Nat} {st : NSt} (h : NetAt w K N st) {k : Nat} (hk : NOwn st k) : k < w.heap.size := by
  rcases hk with rfl | ⟨r, hr, rfl⟩
  · exact h.mlt
  · exact h.glt hr
theorem NetAt.keep {w w' : World} {K K' : Nat → Prop} {N : Nat} {st : NSt} (h : NetAt w K N st) (hN : w'.heap[N]? = w.heap[N]?) (ho : ∀ k, NOwn st k → w'.heap[k]? = w.heap[k]?) (hk : ∀ b, K b → b < w.heap.size → w'.heap[b]? = w.heap[b]?) (hs : w.heap.size ≤ w'.heap.size) (hK : ∀ b, K b → b < w.heap.size → K' b) : NetAt w' K' N st := by
  obtain ⟨es, c, h1, h2, h3⟩ := h.map
  exact ⟨hN.trans h.net, ⟨es, c, (ho _ (.inl rfl)).trans h1, h2, h3⟩, fun r hr => (h.row r hr).keep (ho _ (.inr ⟨r, hr, rfl⟩)) hk hs hK, h.apart⟩
theorem NetAt.below {w w' : World} {K : Nat → Prop} {N : Nat} {st : NSt} (h : NetAt w K N st) (hb : Below w.heap.size w w') : NetAt w' K N st :=
  h.keep (hb.block _ h.net.lt) (fun k hk => hb.block k (h.olt hk)) (fun b _ hl => hb.block b hl) hb.size (fun _ k _ => k)
theorem NetAt.mono {w : World} {K K' : Nat → Prop} {N : Nat} {st : NSt} (h : NetAt w K N st) (hK : ∀ b, K b → b < w.heap.size → K' b) : NetAt w K' N st :=
  h.keep rfl (fun _ _ => rfl) (fun _ _ _ => rfl) (Nat.le_refl _) hK
theorem NetAt.drew {w : World} {K : Nat → Prop} {N : Nat} {st : NSt} (h : NetAt w K N st) : NetAt w.drew K N st :=
  h.keep rfl (fun _ _ => rfl) (fun _ _ _ => rfl) (Nat.le_refl _) (fun _ k _ => k)
theorem rowOf_some {st : NSt} {a b : Int} {r : NRow} (h : rowOf st a b = some r) : r ∈ st.rows ∧ r.a = a ∧ r.b = b := by
  unfold rowOf at h
  have h1 := List.mem_of_find?_eq_some h
  have h2 := List.find?_some h
  simp at h2
  exact ⟨h1, h2⟩
theorem rowOf_none {st : NSt} {a b : Int} (h : rowOf st a b = none) : ∀ r ∈ st.rows, ¬ (r.a = a ∧ r.b = b) := by
  unfold rowOf at h
  intro r hr
  have := List.find?_eq_none.1 h r hr
  simpa using this
/-- An entry of the map is a row's, at the same place. -/
theorem ent_row {es : List MapEntry} {rows : List NRow} (h : es.map (fun e => (e.key, e.val)) = rows.map (fun r => (r.key, r.val))) {j : Nat} {r : NRow} (hj : rows[j]? = some r) : ∃ e, es[j]? = some e ∧ e.key = r.key ∧ e.val = r.val := by
  have h1 := congrArg (fun l => l[j]?) h
  simp only [List.getElem?_map, hj, Option.map_some] at h1
  cases h2 : es[j]? with
  | none => rw [h2] at h1; cases h1
  | some e =>
    rw [h2] at h1
    simp at h1
    exact ⟨e, rfl, h1⟩
theorem ent_none {es : List MapEntry} {rows : List NRow} (h : es.map (fun e => (e.key, e.val)) = rows.map (fun r => (r.key, r.val))) {a b : Int} (hno : ∀ r ∈ rows, ¬ (r.a = a ∧ r.b = b)) : ∀ e ∈ es, e.key ≠ linkV a b := by
  intro e he hk
  have h1 : (e.key, e.val) ∈ rows.map (fun r => (r.key, r.val)) := by rw [← h]; exact List.mem_map.2 ⟨e, he, rfl⟩
  obtain ⟨r, hr, e1⟩ := List.mem_map.1 h1
  injection e1 with e1 _
  exact hno r hr (linkV_inj (e1.trans hk))
/-- A look-up. -/
theorem NetAt.look {w : World} {K : Nat → Prop} {N : Nat} {st : NSt} (h : NetAt w K N st) {a b : Int} (ha : I64 a) (hb : I64 b) :
    ∃ A c, (∀ W : World, W.heap = w.heap → (Instr.lookup 44 (.map (some st.m)) (linkV a b) false).run Tryz.prog W = .ok (.slice A (sig st a b).length c) W) ∧
      ((rowOf st a b = none ∧ A = none ∧ c = 0) ∨ ∃ r, rowOf st a b = some r ∧ A = some ⟨r.g, 0, none⟩ ∧ c = r.cap) := by
  obtain ⟨es, ck, h1, h2, h3⟩ := h.map
  obtain ⟨l, hl⟩ := linkKey a b ha hb
  cases hr : rowOf st a b with
  | none =>
    refine ⟨none, 0, fun W hW => ?_, .inl ⟨rfl, rfl, rfl⟩⟩
    rw [← hW] at h1
    rw [run_look_none linkLaw mapTy h1 h2 hl (ent_none h3 (rowOf_none hr)) (zeroRow W)]
    simp [sig, hr]
  | some r =>
    obtain ⟨hm, e1, e2⟩ := rowOf_some hr
    obtain ⟨j, hj⟩ := List.mem_iff_getElem?.1 hm
    obtain ⟨e, he, k1, k2⟩ := ent_row h3 hj
    refine ⟨_, _, fun W hW => ?_, .inr ⟨r, rfl, rfl, rfl⟩⟩
    rw [← hW] at h1
    rw [run_look_some linkLaw mapTy h1 h2 hl he (k1.trans (by rw [NRow.key, e1, e2])), k2]
    simp [sig, hr, NRow.val]
end Go.Proofs.YtenkhbiikecegaaGreat
