/- text, the walk: what a line tells; a line's instruction on its way to its row. -/
import Derived.Test.YtjebjninlejoeaaGreatDoorX31
import Derived.Test.YtjebjninlejoeaaGreatDoorP9
namespace Go.Proofs.YtjebjninlejoeaaGreatDoor
open Go.RowKit Go.Maps Go.ChangeMaps
set_option linter.unusedVariables false
set_option linter.unusedSimpArgs false
set_option linter.unusedSectionVars false
set_option maxRecDepth 100000

/-- Blocks of texts are as they were. -/
def K9 (w w' : World) : Prop := ∀ (b : Nat) (cs : Array Value) (fr : Nat × Nat), w.heap[b]? = some (.cells cs 9 fr) → w'.heap[b]? = w.heap[b]?
theorem K9.refl (w : World) : K9 w w := fun _ _ _ _ => rfl
theorem K9.trans {w w1 w2 : World} (h : K9 w w1) (h2 : K9 w1 w2) : K9 w w2 := fun b cs fr e => by
  have e1 := h b cs fr e
  exact (h2 b cs fr (e1.trans e)).trans e1
theorem blk_lt {w : World} {b : Nat} {o : Obj} (h : w.heap[b]? = some o) : b < w.heap.size := (Array.getElem?_eq_some_iff.1 h).1
theorem K9.of {w w' : World} (h : Below w.heap.size w w') : K9 w w' := fun b _ _ e => h.block b (blk_lt e)
/-- What is below D, and texts, are as they were. -/
structure Lo (D : Nat) (w w' : World) : Prop where
  bl : Below D w w'
  k9 : K9 w w'
theorem Lo.refl (D : Nat) (w : World) : Lo D w w := ⟨Below.refl _ _, K9.refl _⟩
theorem Lo.trans {D : Nat} {w w1 w2 : World} (h : Lo D w w1) (h2 : Lo D w1 w2) : Lo D w w2 := ⟨h.bl.trans h2.bl, h.k9.trans h2.k9⟩
theorem Lo.of {D : Nat} {w w' : World} (h : Below w.heap.size w w') (hD : D ≤ w.heap.size) : Lo D w w' := ⟨h.mono hD, K9.of h⟩
theorem Lo.grown {D : Nat} {w w1 : World} {v : Value} {base size n : Nat} {e : TypeId} {xs : List Value} (ho : w.ownsRow base e size v n xs) (he : e ≠ 9) (hg : w.grownBy w1 v.ownBlock) (hb : D ≤ base) (hD : D ≤ w.heap.size) : Lo D w w1 := by
  refine ⟨(Below.refl D w).grown hg hD (fun g q => Nat.le_trans hb (ho.lt g q).1), fun b cs fr q => hg.block b (blk_lt q) (fun q2 => ?_)⟩
  rcases ho.2 with ⟨rfl, -⟩ | ⟨g', cap, cur, rfl, _, hc, _⟩
  · cases q2
  · cases q2
    rw [hc] at q
    injection q with q
    injection q with _ q
    exact he q
theorem Lo.set {D P : Nat} {w : World} {t : TypeId} {cs : List Value} (h : Bk w P t cs) (ht : t ≠ 9) (hP : D ≤ P) (k : Nat) (u : Value) : Lo D w (w.setCell ⟨P, k, none⟩ u) := by
  refine ⟨(Below.refl D w).setCell hP u, fun b cs fr q => Below.heap_setCell w _ _ b (fun e => ?_)⟩
  have e : b = P := e
  subst e
  have h : w.heap[b]? = _ := h
  rw [h] at q
  injection q with q
  injection q with _ q
  exact ht q
/-- What a line tells: the fault that is thrown, or the parser's new state. -/
def LineR (w : World) (D P Wm M : Nat) (r : Except (Int × Nat) PS) (x : Ending) (w' : World) : Prop :=
  Lo D w w' ∧ match r with
  | .error e => x = Thrown e.1 (e.2 : Nat)
  | .ok st => x = .returned (.tuple #[]) ∧ ∃ vo vj, PsAt w' D P Wm M st vo vj
theorem LineR.err {w w' : World} {D P Wm M : Nat} {r : Except (Int × Nat) PS} {e : Int} {m : Nat} (h : r = .error (e, m)) (hb : Lo D w w') : LineR w D P Wm M r (Thrown e (m : Nat)) w' := by
  subst h
  exact ⟨hb, rfl⟩
theorem LineR.ok {w w' : World} {D P Wm M : Nat} {r : Except (Int × Nat) PS} {st : PS} {vo vj : Value} (h : r = .ok st) (hb : Lo D w w') (hp : PsAt w' D P Wm M st vo vj) : LineR w D P Wm M r (.returned (.tuple #[])) w' := by
  subst h
  exact ⟨hb, rfl, vo, vj, hp⟩
theorem Below.of_grown {D : Nat} {w w1 : World} {row : Option Nat} (h : w.grownBy w1 row) (hr : ∀ g, row = some g → D ≤ g) (hD : D ≤ w.heap.size) : Below D w w1 := (Below.refl D w).grown h hD (fun g e => hr g e)
theorem Below.of_fr {R N D : Nat} {w w1 : World} (h : Ag (Fr R N) w w1) (hR : D ≤ R) (hN : D ≤ N) (hD : D ≤ w.heap.size) : Below D w w1 :=
  ⟨h.os, h.tape, h.output, h.size, fun k hk => h.block k (Nat.lt_of_lt_of_le hk hD) ⟨by omega, by omega⟩⟩
/-- An instruction that has been read, in its reader's block. -/
structure LJ (w : World) (D P Wm M R N : Nat) (st : PS) (vo vj : Value) (i : IV) (lb : Nm) (W : World) : Prop where
  low : Lo D w W
  ps : PsAt W D P Wm M st vo vj
  rd : Bk W R 126 (rdV N i lb)
section
variable {w W W' : World} {D P Wm M R N : Nat} {st : PS} {vo vj : Value} {i : IV} {lb : Nm} (h : LJ w D P Wm M R N st vo vj i lb W)
include h
theorem LJ.size : D ≤ W.heap.size := Nat.le_trans h.ps.lo.1 (Nat.le_of_lt h.ps.bk.lt)
theorem LJ.below (hb : Below W.heap.size W W') : LJ w D P Wm M R N st vo vj i lb W' :=
  ⟨h.low.trans (Lo.of hb h.size), h.ps.below hb, h.rd.below hb h.rd.lt⟩
theorem LJ.drew : LJ w D P Wm M R N st vo vj i lb W.drew := h.below (Below.drew (Below.refl _ W))
theorem LJ.alloc (o : Obj) : LJ w D P Wm M R N st vo vj i lb (W.alloc o) := h.below ((Below.refl _ W).alloc (Nat.le_refl _) o)
theorem LJ.neP : P ≠ R := by
  rintro rfl
  have h1 : W.heap[P]? = _ := h.ps.bk
  have h2 : W.heap[P]? = _ := h.rd
  rw [h1] at h2
  injection h2 with h2
  injection h2 with _ h2
  exact absurd h2 (by decide)
theorem LJ.cells : W.cell? ⟨R, 1, none⟩ = some (.int .u8 i.op) ∧ W.cell? ⟨R, 2, none⟩ = some (.bool i.narrow) ∧ W.cell? ⟨R, 3, none⟩ = some (.int .i64 i.dst) ∧ W.cell? ⟨R, 4, none⟩ = some (.int .i64 i.src) ∧ W.cell? ⟨R, 5, none⟩ = some (.bool i.useImm) ∧ W.cell? ⟨R, 6, none⟩ = some (.int .i64 i.off) ∧ W.cell? ⟨R, 7, none⟩ = some (.int .i64 i.imm) ∧ W.cell? ⟨R, 8, none⟩ = some (.int .i64 i.size) ∧ W.cell? ⟨R, 9, none⟩ = some (.string ⟨lb.toArray⟩) :=
  ⟨h.rd.cell 1, h.rd.cell 2, h.rd.cell 3, h.rd.cell 4, h.rd.cell 5, h.rd.cell 6, h.rd.cell 7, h.rd.cell 8, h.rd.cell 9⟩
/-- A jump is appended. -/
theorem LJ.jumped {vj' : Value} (j : Jmp) (ho : W'.ownsRow D 129 3 vj' (st.jumps.length + 1) (jmC st.jumps ++ [.int .i64 j.at_, .int .i64 j.line, .string ⟨j.to.toArray⟩])) (hg : W.grownBy W' vj.ownBlock) : LJ w D P Wm M R N { st with jumps := st.jumps ++ [j] } vo vj' i lb (W'.setCell ⟨P, 3, none⟩ vj') := by
  have e1 := h.ps.jumped j ho hg
  have r1 : Bk W' R 126 (rdV N i lb) := (hg.block R h.rd.lt (fun e => own_ne_bk h.ps.jumps e.symm h.rd (by decide) rfl)).trans h.rd
  have hb1 : Bk W' P 58 [vo, .map (some Wm), .map (some M), vj] := (hg.block P h.ps.bk.lt (fun e => (h.ps.nj P e.symm).1 rfl)).trans h.ps.bk
  refine ⟨(h.low.trans (Lo.grown h.ps.jumps (by decide) hg (Nat.le_refl _) h.size)).trans (Lo.set hb1 (by decide) h.ps.lo.1 _ _), e1, ?_⟩
  exact (Below.heap_setCell W' _ _ R (fun e => h.neP e.symm)).trans r1
/-- An instruction is appended. -/
theorem LJ.outed {vo' : Value} (ho : W'.ownsRow D 40 8 vo' (st.out.length + 1) (outC st.out ++ ivV i)) (hg : W.grownBy W' vo.ownBlock) : Lo D w (W'.setCell ⟨P, 0, none⟩ vo') ∧ PsAt (W'.setCell ⟨P, 0, none⟩ vo') D P Wm M { st with out := st.out ++ [i] } vo' vj := by
  have hb1 : Bk W' P 58 [vo, .map (some Wm), .map (some M), vj] := (hg.block P h.ps.bk.lt (fun e => (h.ps.no P e.symm).1 rfl)).trans h.ps.bk
  exact ⟨(h.low.trans (Lo.grown h.ps.out (by decide) hg (Nat.le_refl _) h.size)).trans (Lo.set hb1 (by decide) h.ps.lo.1 _ _), h.ps.outed i ho hg⟩
end
/-- A line whose method has been walked. -/
theorem LI.read {w W W' : World} {D P Wm M N Q R : Nat} {st : PS} {vo vj : Value} {n : Int} {l t : List Nm} {i : IV} {lb : Nm} (h : LI w D P Wm M N Q st vo vj n l W) (hr : RdAt W' R N (fun b => N < b ∧ b < Q) i lb t n) (ha : Ag (Fr R N) W W') (hR : w.heap.size ≤ R) : LJ w D P Wm M R N st vo vj i lb W' := by
  have h1 : Below w.heap.size w W' := h.low.trans (Below.of_fr ha hR h.lo h.low.size)
  have hD : D ≤ w.heap.size := Nat.le_trans h.ps.lo.1 (Nat.le_of_lt (h.own P (.inl rfl)))
  exact ⟨Lo.of h1 hD, h.ps.keep fun b hb ho => ha.block b hb ⟨by have := h.own b ho; have := h.lo; omega, by have := h.own b ho; omega⟩, hr.bk⟩
end Go.Proofs.YtjebjninlejoeaaGreatDoor

