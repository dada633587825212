/- disk: a disk made since w, and blocks F beside it that it leaves alone. -/
import Derived.Test.YtcmbeolicopicaaDM2
import Derived.Test.YtcmbeolicopicaaDAw
namespace Go.Proofs.Ytcmbeolicopicaa
open Go.RowKit Go.Maps Go.ChangeMaps
set_option linter.unusedVariables false
set_option linter.unusedSectionVars false
set_option linter.unusedSimpArgs false
set_option maxRecDepth 100000

structure Bx (w : World) (D : Nat) (room : Int) (L : List FE) (n : Nat) (F : Nat → Prop) (W : World) : Prop where
  db : ∃ B : Nat → Prop, DB B D room L n W ∧ (∀ j, B j → w.heap.size ≤ j) ∧ ∀ x, F x → ¬ B x
  lt : ∀ x, F x → x < W.heap.size
  low : Below w.heap.size w W
section
variable {w : World} {D : Nat} {room : Int} {L : List FE} {n : Nat} {F : Nat → Prop} {W : World}
theorem Bx.below {W' : World} (h : Bx w D room L n F W) (hb : Below W.heap.size W W') : Bx w D room L n F W' := by
  obtain ⟨B, h1, h2, h3⟩ := h.db
  exact ⟨⟨B, h1.below hb, h2, h3⟩, fun x hx => Nat.lt_of_lt_of_le (h.lt x hx) hb.size, h.low.trans (hb.mono h.low.size)⟩
/-- A block of F is turned, others are as they were. -/
theorem Bx.turn {W' : World} (h : Bx w D room L n F W) (ha : Ag (fun j => ¬ F j) W W') (hF : ∀ x, F x → w.heap.size ≤ x) : Bx w D room L n F W' := by
  obtain ⟨B, h1, h2, h3⟩ := h.db
  exact ⟨⟨B, h1.keep (fun j q => ha.block j (h1.lt q) (fun hf => h3 j hf q)) ha.size, h2, h3⟩, fun x hx => Nat.lt_of_lt_of_le (h.lt x hx) ha.size, ⟨ha.os.trans h.low.os, ha.tape.trans h.low.tape, ha.output.trans h.low.output, Nat.le_trans h.low.size ha.size, fun k hk => (ha.block k (Nat.lt_of_lt_of_le hk h.low.size) (fun hf => by have := hF k hf; omega)).trans (h.low.block k hk)⟩⟩
/-- F grows by a new block. -/
theorem Bx.more (h : Bx w D room L n F W) {g : Nat} {W' : World} (hb : Below W.heap.size W W') (hg : W.heap.size ≤ g) (hg' : g < W'.heap.size) : Bx w D room L n (fun j => F j ∨ j = g) W' := by
  obtain ⟨B, h1, h2, h3⟩ := h.db
  refine ⟨⟨B, h1.below hb, h2, fun x hx q => ?_⟩, fun x hx => ?_, h.low.trans (hb.mono h.low.size)⟩
  · rcases hx with hx | rfl
    · exact h3 x hx q
    · have := h1.lt q; omega
  · rcases hx with hx | rfl
    · exact Nat.lt_of_lt_of_le (h.lt x hx) hb.size
    · exact hg'
theorem Bx.did {B : Nat → Prop} {L' : List FE} {n' : Nat} {W' : World} (h : Bx w D room L n F W) (h2 : ∀ j, B j → w.heap.size ≤ j) (h3 : ∀ x, F x → ¬ B x) (hd : DDid B D room L' n' W W') : Bx w D room L' n' F W' ∧ Ag F W W' := by
  obtain ⟨B', p1, p2, p3⟩ := hd
  refine ⟨⟨⟨B', p2, fun j q => (p1 j q).elim (h2 j) (fun q => Nat.le_trans h.low.size q), fun x hx q => ?_⟩, fun x hx => Nat.lt_of_lt_of_le (h.lt x hx) p3.size, h.low.trans (p3.below h2 h.low.size)⟩, p3.ag (fun j q hf => h3 j hf q)⟩
  rcases p1 _ q with q | q
  · exact h3 x hx q
  · have := h.lt x hx; omega
end
end Go.Proofs.Ytcmbeolicopicaa

