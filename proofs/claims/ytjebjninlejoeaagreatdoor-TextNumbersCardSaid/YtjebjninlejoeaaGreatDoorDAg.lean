/- What stays; small facts on slices. No program. -/
import Derived.Test.YtjebjninlejoeaaGreatDoorNBase
import Derived.OwnWalk
import Derived.Laws.MakeOwn
import Derived.StillTailTactics
namespace Go.Proofs.YtjebjninlejoeaaGreatDoor
open Go.RowKit
set_option linter.unusedVariables false
set_option maxRecDepth 100000

/-- What K holds of lies as it lay. -/
structure Ag (K : Nat → Prop) (W W' : World) : Prop where
  os : W'.os = W.os
  tape : W'.tape = W.tape
  output : W'.output = W.output
  size : W.heap.size ≤ W'.heap.size
  block : ∀ k, k < W.heap.size → K k → W'.heap[k]? = W.heap[k]?
theorem Ag.refl (K : Nat → Prop) (W : World) : Ag K W W := ⟨rfl, rfl, rfl, Nat.le_refl _, fun _ _ _ => rfl⟩
theorem Ag.trans {K : Nat → Prop} {A B C : World} (h : Ag K A B) (k : Ag K B C) : Ag K A C :=
  ⟨k.os.trans h.os, k.tape.trans h.tape, k.output.trans h.output, Nat.le_trans h.size k.size, fun i hi hK => (k.block i (Nat.lt_of_lt_of_le hi h.size) hK).trans (h.block i hi hK)⟩
theorem Ag.mono {K K' : Nat → Prop} {A B : World} (h : Ag K A B) (hK : ∀ k, k < A.heap.size → K' k → K k) : Ag K' A B := ⟨h.os, h.tape, h.output, h.size, fun i hi hk => h.block i hi (hK i hi hk)⟩
theorem Ag.of_below {A B : World} (K : Nat → Prop) (h : Below A.heap.size A B) : Ag K A B := ⟨h.os, h.tape, h.output, h.size, fun i hi _ => h.block i hi⟩
theorem Ag.drew {K : Nat → Prop} {A B : World} (h : Ag K A B) : Ag K A B.drew := ⟨h.os, h.tape, h.output, h.size, h.block⟩
theorem Ag.alloc {K : Nat → Prop} {A B : World} (h : Ag K A B) (o : Obj) : Ag K A (B.alloc o) := h.trans (Ag.of_below K ((Below.refl _ _).alloc (Nat.le_refl _) o))
theorem Ag.setCell {K : Nat → Prop} {A B : World} (h : Ag K A B) {p : Addr} (hp : p.block < A.heap.size → ¬ K p.block) (u : Value) : Ag K A (B.setCell p u) :=
  ⟨h.os, h.tape, h.output, by simpa [World.setCell] using h.size, fun i hi hk => (Below.heap_setCell B p u i (fun e => hp (by rw [← e]; exact hi) (by rw [← e]; exact hk))).trans (h.block i hi hk)⟩
theorem Ag.grown {K : Nat → Prop} {A B C : World} {row : Option Nat} (h : Ag K A B) (hg : B.grownBy C row) (hr : ∀ r, row = some r → r < A.heap.size → ¬ K r) : Ag K A C :=
  ⟨hg.os.trans h.os, hg.tape.trans h.tape, hg.output.trans h.output, Nat.le_trans h.size hg.size, fun i hi hk => (hg.block i (Nat.lt_of_lt_of_le hi h.size) (fun e => hr i e.symm hi hk)).trans (h.block i hi hk)⟩
theorem Ag.below {K : Nat → Prop} {A B : World} {n : Nat} (h : Ag K A B) (hn : n ≤ A.heap.size) (hk : ∀ k, k < n → K k) : Below n A B := ⟨h.os, h.tape, h.output, h.size, fun i hi => h.block i (Nat.lt_of_lt_of_le hi hn) (hk i hi)⟩
theorem frozen_blk {w : World} {g : Nat} {cs : Array Value} {t : TypeId} (h : w.heap[g]? = some (.cells cs t (0, 0))) (j : Nat) : w.frozen? ⟨g, j, none⟩ = false := by simp [World.frozen?, h]
theorem news_new (w : World) (cs : List Value) (t : TypeId) : ∀ j u, cs[j]? = some u → (w.alloc (.cells cs.toArray t)).cell? ((⟨w.heap.size, 0, none⟩ : Addr).add j) = some u := by
  intro j u hu
  have hadd : (⟨w.heap.size, 0, none⟩ : Addr).add j = ⟨w.heap.size, j, none⟩ := by unfold Addr.add; split <;> simp_all
  rw [hadd, cell_of_row _ _ j _ _ _ (heap_alloc_new w _)]
  simpa using hu
theorem Rd.at_ {w : World} {K : Nat → Prop} {A : Option Addr} {l : List Int} {c : Nat} (h : Rd w K A c (u8s l)) {k : Nat} (hk : k < l.length) :
    ∃ a x, A = some a ∧ K a.block ∧ w.cell? (a.add k) = some (.int .u8 x) ∧ Hid (l[k]? = some x) := by
  obtain ⟨a, e, hb, hc⟩ := h.2 (by intro e; have := congrArg List.length e; simp at this; subst this; simp at hk)
  exact ⟨a, l[k], e, hb, hc k _ (by simp [u8s, hk]), List.getElem?_eq_getElem hk⟩
theorem Rd.cells {w : World} {K : Nat → Prop} {c : Nat} {A : Option Addr} {xs : List Value} (h : Rd w K A c xs) : ∀ ad, A = some ad → ∀ j u, xs[j]? = some u → w.cell? (ad.add j) = some u := by
  intro ad e j u hu
  obtain ⟨a, e', _, hc⟩ := h.2 (by rintro rfl; simp at hu)
  rw [e] at e'
  injection e' with e'
  subst e'
  exact hc j u hu
theorem u8s_app (a b : List Int) : u8s (a ++ b) = u8s a ++ u8s b := by simp [u8s]
theorem owns_form {w : World} {base e size n : Nat} {v : Value} {xs : List Value} (h : w.ownsRow base e size v n xs) : ∃ A c, v = .slice A n c := by
  rcases h.2 with ⟨h', hn⟩ | ⟨g, cap, cur, h', _⟩
  · exact ⟨none, 0, by rw [h', hn]⟩
  · exact ⟨_, _, h'⟩
theorem owns_block {w : World} {base e size n : Nat} {v : Value} {xs : List Value} (h : w.ownsRow base e size v n xs) : ∀ g, v.ownBlock = some g → base ≤ g ∧ g < w.heap.size := by
  intro g hg
  rcases h.2 with ⟨h', _⟩ | ⟨g', cap, cur, rfl, hb, hg', _⟩
  · rw [h'] at hg; cases hg
  · injection hg with hg
    subst hg
    exact ⟨hb, (Array.getElem?_eq_some_iff.1 hg').1⟩
theorem owns_keep {w w' : World} {base e size n : Nat} {v : Value} {xs : List Value} (h : w.ownsRow base e size v n xs) (hk : ∀ g, v.ownBlock = some g → w'.heap[g]? = w.heap[g]?) : w'.ownsRow base e size v n xs := by
  refine ⟨h.1, ?_⟩
  rcases h.2 with h' | ⟨g, cap, cur, rfl, hb, hg, h1, h2, h3, h4⟩
  · exact .inl h'
  · exact .inr ⟨g, cap, cur, rfl, hb, (hk g rfl).trans hg, h1, h2, h3, h4⟩
theorem owns_lt {w : World} {base e size n : Nat} {v : Value} {xs : List Value} (h : w.ownsRow base e size v n xs) : ∀ g, v.ownBlock = some g → g < w.heap.size := by
  intro g hg
  rcases h.2 with ⟨h', _⟩ | ⟨g', cap, cur, rfl, hb, hg', _⟩
  · rw [h'] at hg; cases hg
  · injection hg with hg
    subst hg
    exact (Array.getElem?_eq_some_iff.1 hg').1
end Go.Proofs.YtjebjninlejoeaaGreatDoor
