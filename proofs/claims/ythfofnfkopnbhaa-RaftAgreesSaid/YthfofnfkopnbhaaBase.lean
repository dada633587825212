/- Bytes and entries in memory, and the statement kit's functions that compare them, over this seat's program. -/
import Derived.Test.YthfofnfkopnbhaaProg
import Derived.WalkKit
import Derived.IntWalk
import Derived.Lib.Hide
import Derived.Deep.QuietTactic
import Derived.BigQuiet
import Derived.Deep.Draws
import Derived.Deep.Slices
import Derived.OpenShut
import Derived.Laws.AppendOwn
import Derived.ChangeArms
namespace Go.Proofs.Ythfofnfkopnbhaa
open Go.RowKit
set_option linter.unusedVariables false
set_option maxRecDepth 100000

theorem add_blk (a : Addr) (n : Nat) : (a.add n).block = a.block := by unfold Addr.add; split <;> rfl

/-- The slice at A, of capacity c, holds the cells xs, in a block of which K holds. -/
def Rd (w : World) (K : Nat → Prop) (A : Option Addr) (c : Nat) (xs : List Value) : Prop :=
  (A = none → c = 0) ∧ (xs ≠ [] → ∃ a, A = some a ∧ K a.block ∧ ∀ j u, xs[j]? = some u → w.cell? (a.add j) = some u)

theorem Rd.none_ (w : World) (K : Nat → Prop) (A : Option Addr) (c : Nat) (h : A = none → c = 0) : Rd w K A c [] := ⟨h, fun h => absurd rfl h⟩
theorem Rd.keep {w w' : World} {K K' : Nat → Prop} {c : Nat} {A : Option Addr} {xs : List Value} (h : Rd w K A c xs) (hk : ∀ b, K b → w'.heap[b]? = w.heap[b]?) (hK : ∀ b, K b → K' b) : Rd w' K' A c xs :=
  ⟨h.1, fun hx => let ⟨a, e, hb, hc⟩ := h.2 hx; ⟨a, e, hK _ hb, fun j u hu => (World.cell?_of_block (by rw [add_blk]; exact hk _ hb)).trans (hc j u hu)⟩⟩
theorem Rd.nonone {w : World} {K : Nat → Prop} {c : Nat} {A : Option Addr} {xs : List Value} (h : Rd w K A c xs) : A = none → xs.length = 0 ∧ c = 0 := by
  intro e
  refine ⟨?_, h.1 e⟩
  cases xs with
  | nil => rfl
  | cons x l => obtain ⟨a, e', _⟩ := h.2 (by simp); rw [e] at e'; cases e'

def u8s (l : List Int) : List Value := l.map (Value.int .u8)
@[simp] theorem u8s_len (l : List Int) : (u8s l).length = l.length := by simp [u8s]

theorem Rd.at_ {w : World} {K : Nat → Prop} {A : Option Addr} {l : List Int} {c : Nat} (h : Rd w K A c (u8s l)) {k : Nat} (hk : k < l.length) :
    ∃ a x, A = some a ∧ K a.block ∧ w.cell? (a.add k) = some (.int .u8 x) ∧ Hid (l[k]? = some x) := by
  obtain ⟨a, e, hb, hc⟩ := h.2 (by intro e; have := congrArg List.length e; simp at this; subst this; simp at hk)
  exact ⟨a, l[k], e, hb, hc k _ (by simp [u8s, hk]), List.getElem?_eq_getElem hk⟩

/-- One entry. -/
structure En where
  term : Int
  kind : Int
  ver : Int
  srv : Int
  good : Bool
  data : List Int
  deriving DecidableEq, Inhabited

/-- An entry's cells, its bytes lying at A. -/
def enV (e : En) (A : Option Addr) (c : Nat) : List Value := [.int .i64 e.term, .int .u8 e.kind, .int .i64 e.ver, .int .i64 e.srv, .bool e.good, .slice A e.data.length c]
def enA (e : En) (A : Option Addr) (c : Nat) : Value := .agg (enV e A c).toArray
/-- An entry lies at a, in blocks of which K holds. -/
def EnAt (w : World) (K : Nat → Prop) (a : Addr) (e : En) : Prop :=
  ∃ A c, K a.block ∧ (∀ j, j < 6 → w.cell? (a.add j) = (enV e A c)[j]?) ∧ Rd w K A c (u8s e.data) ∧ e.data.length ≤ c ∧ c ≤ maxLen
/-- A slice of entries. -/
def Ents (w : World) (K : Nat → Prop) (A : Option Addr) (c : Nat) (es : List En) : Prop :=
  (A = none → c = 0) ∧ es.length ≤ c ∧ c ≤ maxLen ∧ (es ≠ [] → ∃ a, A = some a ∧ ∀ i e, es[i]? = some e → EnAt w K (a.add (i * 6)) e)
theorem EnAt.keep {w w' : World} {K K' : Nat → Prop} {a : Addr} {e : En} (h : EnAt w K a e) (hk : ∀ b, K b → w'.heap[b]? = w.heap[b]?) (hK : ∀ b, K b → K' b) : EnAt w' K' a e := by
  obtain ⟨A, c, hb, hc, hr, hl, hm⟩ := h
  exact ⟨A, c, hK _ hb, fun j hj => (World.cell?_of_block (by rw [add_blk]; exact hk _ hb)).trans (hc j hj), hr.keep hk hK, hl, hm⟩
theorem Ents.keep {w w' : World} {K K' : Nat → Prop} {A : Option Addr} {c : Nat} {es : List En} (h : Ents w K A c es) (hk : ∀ b, K b → w'.heap[b]? = w.heap[b]?) (hK : ∀ b, K b → K' b) : Ents w' K' A c es := by
  obtain ⟨h1, h2, h3, h4⟩ := h
  refine ⟨h1, h2, h3, fun hx => ?_⟩
  obtain ⟨a, e, hc⟩ := h4 hx
  exact ⟨a, e, fun i x hi => (hc i x hi).keep hk hK⟩

section
open Go.ChangeShapes Go.WideShapes Go.Deep
variable {H : Type} {enc : TypeId × Value → H}
theorem cells37 : Try.prog.cellsOf 44 = 6 := by kernel_rfl
theorem cells3 : Try.prog.cellsOf 3 = 1 := by kernel_rfl
theorem cells34 : Try.prog.cellsOf 41 = 1 := by kernel_rfl
theorem cells4 : Try.prog.cellsOf 4 = 1 := by kernel_rfl
theorem cells35 : Try.prog.cellsOf 42 = 1 := by kernel_rfl
/-- Bytes that came in. -/
theorem came_bytes {W : World} {fuel : Nat} {v : Value} {x : DataW H × List MemPlace} (h : DataW.trod enc Try.prog W 0 (fun _ => true) true fuel 42 [v] = some x) :
    ∃ A c l, v = .slice A (List.length l) c ∧ Rd W (fun b => b < W.heap.size) A c (u8s l) ∧ l.length ≤ c ∧ c ≤ maxLen := by
  rcases open_ints Try.underlying42 Try.underlying5 (by kernel_rfl) h with ⟨hcs, _⟩ | ⟨a, l, c, zs, hcs, _, hl, hm, hz, _, hcell, hwz⟩
  · injection hcs with hcs
    subst hcs
    exact ⟨none, 0, [], rfl, Rd.none_ _ _ _ _ (fun _ => rfl), Nat.le_refl _, by decide⟩
  · injection hcs with hcs
    subst hcs
    have hz' : zs.length = c := by simpa using hz
    refine ⟨some a, c, zs.take l, ?_, ⟨(fun e => by cases e), fun hne => ⟨a, rfl, ?_, ?_⟩⟩, ?_, hm⟩
    · simp [hz', hl]
    · have h0 : 0 < (zs.take l).length := by
        cases hq : zs.take l with
        | nil => rw [hq] at hne; exact absurd rfl hne
        | cons _ _ => simp
      have h1 := hcell 0 (by simp at h0; omega)
      have h2 := World.block_lt_of_cell? W _ h1
      rw [add_blk] at h2
      exact h2
    · intro j u hu
      simp only [u8s, List.getElem?_map] at hu
      cases hj : (zs.take l)[j]? with
      | none => rw [hj] at hu; cases hu
      | some y =>
        rw [hj] at hu
        injection hu with hu
        subst hu
        obtain ⟨h1, h2⟩ := List.getElem?_eq_some_iff.1 hj
        have h3 : j < zs.length := by simp at h1; omega
        rw [hcell j h3]
        simp at h2
        simp [List.getD_eq_getElem?_getD, h3, h2]
    · simp; omega
set_option maxRecDepth 100000 in
/-- An entry that came in, by its cells. -/
theorem came_entry {W : World} {fuel : Nat} {cs : List Value} {x : DataW H × List MemPlace} (h : DataW.trod enc Try.prog W 0 (fun _ => true) true fuel 44 cs = some x) :
    ∃ e A c, cs = enV e A c ∧ Rd W (fun b => b < W.heap.size) A c (u8s e.data) ∧ e.data.length ≤ c ∧ c ≤ maxLen := by
  obtain ⟨xs, n, rfl, hx, hcl, hxl, hf⟩ := DataW.trod_struct Try.underlying44 h
  have hc : cs.length = 6 := hcl.trans (by kernel_rfl)
  match cs, hc with
  | [c0, c1, c2, c3, c4, c5], _ =>
    match xs, hxl with
    | [y0, y1, y2, y3, y4, y5], _ =>
      have h0 := hf 0 _ rfl
      have h1 := hf 1 _ rfl
      have h2 := hf 2 _ rfl
      have h3 := hf 3 _ rfl
      have h4 := hf 4 _ rfl
      have h5 := hf 5 _ rfl
      simp [cells3, cells34, cells4, cells35] at h0 h1 h2 h3 h4 h5
      obtain ⟨n0, e0, _⟩ := DataW.trod_int Try.underlying3 h0
      obtain ⟨n1, e1, _⟩ := DataW.trod_int Try.underlying41 h1
      obtain ⟨n2, e2, _⟩ := DataW.trod_int Try.underlying3 h2
      obtain ⟨n3, e3, _⟩ := DataW.trod_int Try.underlying3 h3
      obtain ⟨n4, e4, _⟩ := DataW.trod_bool Try.underlying4 h4
      obtain ⟨A, c, l, e5, hr, hl, hm⟩ := came_bytes h5
      injection e0 with e0
      injection e1 with e1
      injection e2 with e2
      injection e3 with e3
      injection e4 with e4
      exact ⟨⟨n0, n1, n2, n3, n4, l⟩, A, c, by rw [e0, e1, e2, e3, e4, e5]; rfl, hr, hl, hm⟩
/-- Entries that came in. -/
theorem came_entries {W : World} {fuel : Nat} {v : Value} {x : DataW H × List MemPlace} (h : DataW.trod enc Try.prog W 0 (fun _ => true) true fuel 34 [v] = some x) :
    ∃ A c es, v = .slice A (List.length es) c ∧ Ents W (fun b => b < W.heap.size) A c es := by
  rcases open_slice Try.underlying34 h with ⟨hcs, _⟩ | ⟨a, len, cap, m, n, D, Pl, hcs, hb, hl, hm, hmm, hx, hi⟩
  · injection hcs with hcs
    subst hcs
    exact ⟨none, 0, [], rfl, fun _ => rfl, Nat.le_refl _, by decide, fun h => absurd rfl h⟩
  · injection hcs with hcs
    subst hcs
    simp at hmm
    subst hmm
    rw [cells37] at hi
    have each : ∀ i, i < len → ∃ e, EnAt W (fun b => b < W.heap.size) (a.add (i * 6)) e := by
      intro i hil
      obtain ⟨cs', hc, ht⟩ := hi i (by omega)
      obtain ⟨_, hcl, hat⟩ := World.cells?_some hc
      obtain ⟨e, A, c, rfl, hr, h1, h2⟩ := came_entry ht
      refine ⟨e, A, c, ?_, fun j hj => hat j hj, hr, h1, h2⟩
      have h3 := hat 0 (by omega)
      have h4 := World.block_lt_of_cell? W _ (h3.trans (by rfl : (enV e A c)[0]? = some (.int .i64 e.term)))
      rw [add_blk] at h4
      exact h4
    obtain ⟨f, hf⟩ := choose_lt each
    refine ⟨some a, m, (List.range len).map f, by simp, fun e => (by cases e), by simpa using hl, hm, fun _ => ⟨a, rfl, ?_⟩⟩
    intro i e hie
    simp only [List.getElem?_map] at hie
    by_cases hil : i < len
    · simp [hil] at hie
      subst hie
      exact hf i hil
    · simp [hil] at hie
end
end Go.Proofs.Ythfofnfkopnbhaa
