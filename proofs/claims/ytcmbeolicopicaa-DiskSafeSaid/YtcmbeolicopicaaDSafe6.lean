/- disk: DiskSafe's state in memory. -/
import Derived.Test.YtcmbeolicopicaaDSafe5
import Derived.Test.YtcmbeolicopicaaDDo
namespace Go.Proofs.Ytcmbeolicopicaa
open Go.RowKit Go.Maps Go.ChangeMaps
set_option linter.unusedVariables false
set_option linter.unusedSectionVars false
set_option linter.unusedSimpArgs false
set_option maxRecDepth 100000

/-- The disk, the two maps, the row of names. -/
structure SI (w : World) (D m1 m2 : Nat) (v : Value) (g : Nat) (L : List FE) (ns : List Nm) (al sl : Nm → Option Value) (n : Nat) (W : World) : Prop where
  bx : Bx w D 1048576 L n (fun j => j = m1 ∨ j = m2 ∨ v.ownBlock = some j) W
  low : w.heap.size ≤ m1 ∧ w.heap.size ≤ m2 ∧ ∀ j, v.ownBlock = some j → w.heap.size ≤ j
  ne : m1 ≠ m2 ∧ v.ownBlock ≠ some m1 ∧ v.ownBlock ≠ some m2
  al : Mf W m1 al
  sl : Mf W m2 sl
  row : Row W 9 1 v g ns.length (ns.map nmV)
theorem row_own {w : World} {e : TypeId} {v : Value} {g n : Nat} {xs : List Value} (h : Row w e 1 v g n xs) : ∀ k, v.ownBlock = some k → k = g := by
  intro k hk
  rcases h.2 with ⟨rfl, _⟩ | ⟨cap, cur, rfl, _⟩
  · cases hk
  · injection hk with hk; exact hk.symm
theorem row_form {w : World} {e : TypeId} {v : Value} {g n : Nat} {xs : List Value} (h : Row w e 1 v g n xs) : ∃ A c, v = .slice A n c ∧ Rd w (fun j => v.ownBlock = some j) A c xs := by
  rcases h.2 with ⟨rfl, rfl⟩ | ⟨cap, cur, rfl, hg, _⟩
  · have : xs = [] := List.eq_nil_of_length_eq_zero (by rw [h.1])
    subst this
    exact ⟨none, 0, rfl, Rd.none_ _ _ _ _ (fun _ => rfl)⟩
  · exact ⟨_, _, rfl, fun e => (by cases e), fun _ => ⟨_, rfl, rfl, h.cells (by simp [Value.ownBlock])⟩⟩
section
variable {w : World} {D m1 m2 : Nat} {v : Value} {g : Nat} {L : List FE} {ns : List Nm} {al sl : Nm → Option Value} {n : Nat} {W : World} (h : SI w D m1 m2 v g L ns al sl n W)
include h
theorem SI.lt : ∀ j, (j = m1 ∨ j = m2 ∨ v.ownBlock = some j) → j < W.heap.size := h.bx.lt
theorem SI.geF : ∀ j, (j = m1 ∨ j = m2 ∨ v.ownBlock = some j) → w.heap.size ≤ j := by
  rintro j (rfl | rfl | q)
  · exact h.low.1
  · exact h.low.2.1
  · exact h.low.2.2 j q
theorem SI.ag {L' : List FE} {n' : Nat} {W' : World} (hb : Bx w D 1048576 L' n' (fun j => j = m1 ∨ j = m2 ∨ v.ownBlock = some j) W') (ha : Ag (fun j => j = m1 ∨ j = m2 ∨ v.ownBlock = some j) W W') : SI w D m1 m2 v g L' ns al sl n' W' := by
  have hk : ∀ j, (j = m1 ∨ j = m2 ∨ v.ownBlock = some j) → W'.heap[j]? = W.heap[j]? := fun j q => ha.block j (h.lt j q) q
  refine ⟨hb, h.low, h.ne, h.al.keep (hk _ (.inl rfl)), h.sl.keep (hk _ (.inr (.inl rfl))), h.row.keep fun e => hk _ (.inr (.inr e))⟩
theorem SI.below {W' : World} (hb : Below W.heap.size W W') : SI w D m1 m2 v g L ns al sl n W' := h.ag (h.bx.below hb) (Ag.of_below _ hb)
theorem SI.names : ∃ A c, v = .slice A ns.length c ∧ Rd W (fun j => v.ownBlock = some j) A c (ns.map nmV) := row_form h.row
theorem SI.turn {W' : World} {m : Nat} (hm : m = m1 ∨ m = m2) (ht : MapTo m W W') : Bx w D 1048576 L n (fun j => j = m1 ∨ j = m2 ∨ v.ownBlock = some j) W' :=
  h.bx.turn ⟨ht.os, ht.tape, ht.output, Nat.le_of_eq ht.size.symm, fun k _ hk => ht.far k (fun e => hk (by rw [e]; rcases hm with rfl | rfl <;> simp))⟩ h.geF
theorem SI.putAll {W' : World} {al' : Nm → Option Value} (ht : MapTo m1 W W') (hm : Mf W' m1 al') : SI w D m1 m2 v g L ns al' sl n W' :=
  ⟨h.turn (.inl rfl) ht, h.low, h.ne, hm, h.sl.keep (ht.far _ h.ne.1.symm), h.row.keep fun e => ht.far _ (fun q => h.ne.2.1 (by rw [← q]; exact e))⟩
theorem SI.putSafe {W' : World} {sl' : Nm → Option Value} (ht : MapTo m2 W W') (hm : Mf W' m2 sl') : SI w D m1 m2 v g L ns al sl' n W' :=
  ⟨h.turn (.inr rfl) ht, h.low, h.ne, h.al.keep (ht.far _ h.ne.1), hm, h.row.keep fun e => ht.far _ (fun q => h.ne.2.2 (by rw [← q]; exact e))⟩
/-- A name more. -/
theorem SI.push {W1 W' : World} {v' : Value} {g' : Nat} {s : Nm} (hb : Below W.heap.size W W1) (hr : Row W' 9 1 v' g' (ns.length + 1) (ns.map nmV ++ [nmV s])) (hg : W1.grownBy W' v.ownBlock) (ho : v'.ownBlock = some g') (hw : g' = W1.heap.size ∨ (g' = g ∧ v.ownBlock = some g)) (hl : g' < W'.heap.size) : SI w D m1 m2 v' g' L (ns ++ [s]) al sl n W' := by
  have h1 := h.below hb
  obtain ⟨B, b1, b2, b3⟩ := h1.bx.db
  have hfar : ∀ j, j < W1.heap.size → v.ownBlock ≠ some j → W'.heap[j]? = W1.heap[j]? := fun j q1 q2 => hg.block j q1 (fun e => q2 e.symm)
  have hle : w.heap.size ≤ g' := by
    rcases hw with rfl | ⟨rfl, q⟩
    · exact h1.bx.low.size
    · exact h.low.2.2 _ q
  have hne : ∀ m, m < W1.heap.size → v.ownBlock ≠ some m → g' ≠ m := by
    intro m q1 q2 e
    rcases hw with q | ⟨q, q'⟩
    · omega
    · exact q2 (by rw [q', ← q, e])
  have l1 := h1.lt m1 (.inl rfl)
  have l2 := h1.lt m2 (.inr (.inl rfl))
  refine ⟨⟨⟨B, b1.keep (fun j q => hfar j (b1.lt q) (fun e => b3 j (.inr (.inr e)) q)) hg.size, b2, fun x hx q => ?_⟩, fun x hx => ?_, ⟨hg.os.trans h1.bx.low.os, hg.tape.trans h1.bx.low.tape, hg.output.trans h1.bx.low.output, Nat.le_trans h1.bx.low.size hg.size, fun k hk => (hfar k (Nat.lt_of_lt_of_le hk h1.bx.low.size) (fun e => by have := h.low.2.2 k e; omega)).trans (h1.bx.low.block k hk)⟩⟩, ⟨h.low.1, h.low.2.1, fun j e => ?_⟩, ⟨h.ne.1, fun e => ?_, fun e => ?_⟩, h1.al.keep (hfar _ l1 h.ne.2.1), h1.sl.keep (hfar _ l2 h.ne.2.2), ?_⟩
  · rcases hx with rfl | rfl | hx
    · exact b3 _ (.inl rfl) q
    · exact b3 _ (.inr (.inl rfl)) q
    · rw [ho] at hx
      injection hx with hx
      subst hx
      rcases hw with rfl | ⟨rfl, q'⟩
      · exact Nat.lt_irrefl _ (b1.lt q)
      · exact b3 _ (.inr (.inr q')) q
  · rcases hx with rfl | rfl | hx
    · exact Nat.lt_of_lt_of_le l1 hg.size
    · exact Nat.lt_of_lt_of_le l2 hg.size
    · rw [ho] at hx
      injection hx with hx
      omega
  · rw [ho] at e
    injection e with e
    omega
  · rw [ho] at e
    injection e with e
    exact hne _ l1 h.ne.2.1 e
  · rw [ho] at e
    injection e with e
    exact hne _ l2 h.ne.2.2 e
  · simpa using hr
end
end Go.Proofs.Ytcmbeolicopicaa

