/- text, the walk: a line's word, looked up. -/
import Derived.Test.YtjebjninlejoeaaGreatDoorX28
namespace Go.Proofs.YtjebjninlejoeaaGreatDoor
open Go.RowKit Go.Maps Go.ChangeMaps
set_option linter.unusedVariables false
set_option linter.unusedSimpArgs false
set_option linter.unusedSectionVars false
set_option maxRecDepth 100000

/-- A line under way: all but the row's block and new ones as at w. -/
structure LI (w : World) (D P Wm M N Q : Nat) (st : PS) (vo vj : Value) (n : Int) (l : List Nm) (W : World) : Prop where
  low : Below w.heap.size w W
  ps : PsAt W D P Wm M st vo vj
  row : RowAt W N (fun b => N < b ∧ b < Q) l n
  lo : w.heap.size ≤ N
  own : ∀ b, Own P Wm M vo vj b → b < w.heap.size
  sz : Q ≤ W.heap.size
section
variable {w W W' : World} {D P Wm M N Q : Nat} {st : PS} {vo vj : Value} {n : Int} {l t : List Nm}
theorem RowAt.ltN {w : World} {N : Nat} {K : Nat → Prop} {l : List Nm} {n : Int} (h : RowAt w N K l n) : N < w.heap.size := by
  obtain ⟨A, c, hb, _⟩ := h.row
  exact hb.lt
theorem LI.below (h : LI w D P Wm M N Q st vo vj n l W) (hb : Below W.heap.size W W') : LI w D P Wm M N Q st vo vj n l W' :=
  ⟨h.low.trans (hb.mono h.low.size), h.ps.below hb, h.row.below hb, h.lo, h.own, Nat.le_trans h.sz hb.size⟩
theorem LI.drew (h : LI w D P Wm M N Q st vo vj n l W) : LI w D P Wm M N Q st vo vj n l W.drew := h.below (Below.drew (Below.refl _ W))
theorem LI.alloc (h : LI w D P Wm M N Q st vo vj n l W) (o : Obj) : LI w D P Wm M N Q st vo vj n l (W.alloc o) := h.below ((Below.refl _ W).alloc (Nat.le_refl _) o)
theorem LI.took (h : LI w D P Wm M N Q st vo vj n l W) (hr : RowAt W' N (fun b => N < b ∧ b < Q) t n) (ha : Ag (fun b => b ≠ N) W W') : LI w D P Wm M N Q st vo vj n t W' :=
  ⟨⟨ha.os.trans h.low.os, ha.tape.trans h.low.tape, ha.output.trans h.low.output, Nat.le_trans h.low.size ha.size, fun k hk => (ha.block k (Nat.lt_of_lt_of_le hk h.low.size) (by have := h.lo; omega)).trans (h.low.block k hk)⟩,
   h.ps.keep fun b hb ho => ha.block b hb (by have := h.own b ho; have := h.lo; omega), hr, h.lo, h.own, Nat.le_trans h.sz ha.size⟩
theorem RowAt.within {w : World} {N : Nat} {K : Nat → Prop} {l : List Nm} {n : Int} (h : RowAt w N K l n) : RowAt w N (fun b => K b ∧ b < w.heap.size) l n := by
  obtain ⟨A, c, hb, h1, h2⟩ := h.row
  refine ⟨⟨A, c, hb, h1, fun hx => ?_⟩, fun q => h.apart q.1, h.ok, h.len⟩
  obtain ⟨g, o, e, hg, hc⟩ := h2 hx
  obtain ⟨x, y, rfl⟩ := List.exists_cons_of_ne_nil hx
  exact ⟨g, o, e, ⟨hg, World.block_lt_of_cell? w _ (hc 0 x rfl)⟩, hc⟩
/-- A block of the call's own is written. -/
theorem LI.wrote (h : LI w D P Wm M N Q st vo vj n l W) {b : Nat} (hb : w.heap.size ≤ b) (hN : b ≠ N) (hQ : Q ≤ b) (ha : Ag (fun k => k ≠ b) W W') : LI w D P Wm M N Q st vo vj n l W' :=
  ⟨⟨ha.os.trans h.low.os, ha.tape.trans h.low.tape, ha.output.trans h.low.output, Nat.le_trans h.low.size ha.size, fun k hk => (ha.block k (Nat.lt_of_lt_of_le hk h.low.size) (by omega)).trans (h.low.block k hk)⟩,
   h.ps.keep fun k hk ho => ha.block k hk (by have := h.own k ho; omega), h.row.keep (fun k hk ho => ha.block k hk (by rcases ho with ho | ho <;> omega)), h.lo, h.own, Nat.le_trans h.sz ha.size⟩
/-- The line's reader is made. -/
theorem LI.reader (h : LI w D P Wm M N Q st vo vj n l W) (i : IV) : RdAt (W.alloc (.cells (rdV N i []).toArray 126)) W.heap.size N (fun b => N < b ∧ b < Q) i [] l n ∧ LI w D P Wm M N Q st vo vj n l (W.alloc (.cells (rdV N i []).toArray 126)) := by
  have h2 := h.alloc (.cells (rdV N i []).toArray 126)
  have h3 := h.sz
  have h4 := h.row.ltN
  exact ⟨⟨Bk.new W _ _, h2.row, by omega, by omega⟩, h2⟩
theorem LI.ways (h : LI w D P Wm M N Q st vo vj n l W) : W.cell? ⟨P, 1, none⟩ = some (.map (some Wm)) := h.ps.bk.cell 1
end
theorem zeroWay (W : World) : (zeroValue 114).run Tryz.prog W = .ok (wayV (iv0 0) .nilFunc) W := rfl
/-- A whole variable is written. -/
theorem bk_write {W : World} {b : Nat} {t : TypeId} {cs us : List Value} (h : Bk W b t cs) (hl : us.length = cs.length) (h1 : ∀ v ∈ us, v.oneCell' = true) : ∃ W', (storeCells ⟨b, 0, none⟩ us).run Tryz.prog W = .ok () W' ∧ Bk W' b t us ∧ Ag (fun k => k ≠ b) W W' := by
  have := run_storeCells_from (P := Tryz.prog) b t us 0 cs.toArray W h (by simpa using hl) h1
  rw [List.take_zero, List.nil_append] at this
  refine ⟨_, this, ?_, ⟨rfl, rfl, rfl, by simp [World.setRow], fun k hk hne => ?_⟩⟩
  · have h : W.heap[b]? = _ := h
    show (W.setRow b us.toArray).heap[b]? = _
    simp [World.setRow, Array.getElem?_modify, h]
  · have hne : ¬ b = k := fun e => hne e.symm
    simp [World.setRow, Array.getElem?_modify, hne]
end Go.Proofs.YtjebjninlejoeaaGreatDoor

