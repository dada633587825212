/- Bytes in memory; blocks; bytes.Clone of slices. -/
import Derived.Test.YtjebjninlejoeaaGreatDoorRow
import Derived.Test.YtjebjninlejoeaaGreatDoorNKey
import Derived.IntWalk
import Derived.Lib.Hide
import Derived.Deep.QuietTactic
import Derived.BigQuiet
import Derived.Deep.Draws
import Derived.Deep.Slices
import Derived.Lib.SliceRun
import Derived.OpenShut
import Derived.ChangeArms
namespace Go.Proofs.YtjebjninlejoeaaGreatDoor
open Go.RowKit Go.Maps Go.ChangeMaps
set_option linter.unusedVariables false
set_option maxRecDepth 100000

theorem add_blk (a : Addr) (n : Nat) : (a.add n).block = a.block := by unfold Addr.add; split <;> rfl
/-- The slice at A, of capacity c, holds the cells xs, in a block of which K holds. -/
def Rd (w : World) (K : Nat → Prop) (A : Option Addr) (c : Nat) (xs : List Value) : Prop :=
  (A = none → c = 0) ∧ (xs ≠ [] → ∃ a, A = some a ∧ K a.block ∧ ∀ j u, xs[j]? = some u → w.cell? (a.add j) = some u)
theorem Rd.none_ (w : World) (K : Nat → Prop) (A : Option Addr) (c : Nat) (h : A = none → c = 0) : Rd w K A c [] := ⟨h, fun h => absurd rfl h⟩
theorem Rd.keep {w w' : World} {K K' : Nat → Prop} {c : Nat} {A : Option Addr} {xs : List Value} (h : Rd w K A c xs) (hk : ∀ b, K b → w'.heap[b]? = w.heap[b]?) (hK : ∀ b, K b → K' b) : Rd w' K' A c xs :=
  ⟨h.1, fun hx => let ⟨a, e, hb, hc⟩ := h.2 hx; ⟨a, e, hK _ hb, fun j u hu => (World.cell?_of_block (by rw [add_blk]; exact hk _ hb)).trans (hc j u hu)⟩⟩
theorem Rd.nonone {w : World} {K : Nat → Prop} {c : Nat} {A : Option Addr} {xs : List Value} (h : Rd w K A c xs) : A = none → xs.length = 0 ∧ c = 0 := by
  intro e
  refine ⟨?_, h.1 e⟩
  cases xs with
  | nil => rfl
  | cons x l => obtain ⟨a, e', _⟩ := h.2 (by simp); rw [e] at e'; cases e'
def u8s (l : List Int) : List Value := l.map (Value.int .u8)
@[simp] theorem u8s_len (l : List Int) : (u8s l).length = l.length := by simp [u8s]
theorem u8s_one (l : List Int) : ∀ u ∈ u8s l, u.oneCell' = true := by
  intro u hu
  obtain ⟨x, _, rfl⟩ := List.mem_map.1 hu
  rfl
/-- The slice at A, of capacity c, is just these bytes, from the head of a block on, of which K holds; the block has room up to the capacity. -/
def Dat (w : World) (K : Nat → Prop) (A : Option Addr) (c : Nat) (l : List Int) : Prop :=
  ∃ b, Row w 5 1 (.slice A l.length c) b l.length (u8s l) ∧ ((Value.slice A l.length c).ownBlock = some b → K b ∧ b < w.heap.size)
theorem Dat.form {w : World} {K : Nat → Prop} {A : Option Addr} {c : Nat} {l : List Int} (h : Dat w K A c l) :
    (A = none ∧ c = 0 ∧ l = []) ∨ ∃ b cur, A = some ⟨b, 0, none⟩ ∧ K b ∧ b < w.heap.size ∧ w.heap[b]? = some (.cells cur 5 (0, 0)) ∧ l.length ≤ c ∧ c ≤ maxLen ∧ cur.toList.take l.length = u8s l ∧ (l.length < c → cur.size = c) := by
  obtain ⟨b, h1, h2⟩ := h
  rcases h1.2 with ⟨e1, e2⟩ | ⟨cap, cur, e1, hg, h3, h4, h5, h6⟩
  · injection e1 with e1 e3 e4
    exact .inl ⟨e1, e4, List.eq_nil_of_length_eq_zero e2⟩
  · injection e1 with e1 e3 e4
    subst e1 e4
    obtain ⟨k1, k2⟩ := h2 rfl
    exact .inr ⟨b, cur, rfl, k1, k2, hg, h3, h4, by simpa using h5, by simpa using h6⟩
theorem Dat.rd {w : World} {K : Nat → Prop} {A : Option Addr} {c : Nat} {l : List Int} (h : Dat w K A c l) : Rd w (fun b => K b ∧ b < w.heap.size) A c (u8s l) ∧ l.length ≤ c ∧ c ≤ maxLen := by
  rcases h.form with ⟨rfl, rfl, rfl⟩ | ⟨b, cur, rfl, hk, hb, hg, h1, h2, h3, h4⟩
  · exact ⟨Rd.none_ _ _ _ _ (fun _ => rfl), Nat.le_refl _, by decide⟩
  · refine ⟨⟨(fun e => by cases e), fun _ => ⟨_, rfl, ⟨hk, hb⟩, fun j u hu => ?_⟩⟩, h1, h2⟩
    have hadd : (⟨b, 0, none⟩ : Addr).add j = ⟨b, j, none⟩ := by unfold Addr.add; split <;> simp_all
    rw [hadd, cell_of_row w b j cur 5 (0, 0) hg]
    rw [← h3, List.getElem?_take] at hu
    split at hu
    · simpa using hu
    · cases hu
theorem Dat.keep {w w' : World} {K K' : Nat → Prop} {A : Option Addr} {c : Nat} {l : List Int} (h : Dat w K A c l) (hk : ∀ b, K b → b < w.heap.size → w'.heap[b]? = w.heap[b]?) (hs : w.heap.size ≤ w'.heap.size) (hK : ∀ b, K b → b < w.heap.size → K' b) : Dat w' K' A c l := by
  obtain ⟨b, h1, h2⟩ := h
  exact ⟨b, h1.keep (fun e => let ⟨k1, k2⟩ := h2 e; hk b k1 k2), fun e => let ⟨k1, k2⟩ := h2 e; ⟨hK b k1 k2, Nat.lt_of_lt_of_le k2 hs⟩⟩
theorem Dat.nil (w : World) (K : Nat → Prop) : Dat w K none 0 [] := ⟨0, Row.nil _ _ _ _, (fun e => by cases e)⟩
theorem own_dat {w' : World} {base : Nat} {v : Value} {l : List Int} (h : w'.ownsRow base 5 1 v l.length (u8s l)) : ∃ A c, v = .slice A l.length c ∧ Dat w' (fun b => base ≤ b) A c l := by
  rcases h.2 with ⟨e1, e2⟩ | ⟨g, cap, cur, e1, hb, hg, h1, h2, h3, h4⟩
  · have : l = [] := List.eq_nil_of_length_eq_zero e2
    subst this
    exact ⟨none, 0, e1, Dat.nil _ _⟩
  · subst e1
    exact ⟨_, _, rfl, g, ⟨h.1, .inr ⟨cap, cur, rfl, hg, h1, h2, h4, fun _ => h3⟩⟩, fun _ => ⟨hb, (Array.getElem?_eq_some_iff.1 hg).1⟩⟩
/-- A block is just these cells. -/
def Bk (w : World) (g : Nat) (t : TypeId) (cs : List Value) : Prop := w.heap[g]? = some (.cells cs.toArray t (0, 0))
theorem Bk.new (w : World) (t : TypeId) (cs : List Value) : Bk (w.alloc (.cells cs.toArray t)) w.heap.size t cs := heap_alloc_new w _
theorem Bk.lt {w : World} {g : Nat} {t : TypeId} {cs : List Value} (h : Bk w g t cs) : g < w.heap.size := (Array.getElem?_eq_some_iff.1 h).1
theorem Bk.below {w w' : World} {g B : Nat} {t : TypeId} {cs : List Value} (h : Bk w g t cs) (hb : Below B w w') (hg : g < B) : Bk w' g t cs := (hb.block g hg).trans h
theorem Bk.cell {w : World} {g : Nat} {t : TypeId} {cs : List Value} (h : Bk w g t cs) (i : Nat) : w.cell? ⟨g, i, none⟩ = cs[i]? := by
  rw [cell_of_row w g i cs.toArray t (0, 0) h, List.getElem?_toArray]
theorem Bk.frozen {w : World} {g : Nat} {t : TypeId} {cs : List Value} (h : Bk w g t cs) (i : Nat) : w.frozen? ⟨g, i, none⟩ = false := frozen_of_row w g i _ t h
theorem Bk.set {w : World} {g : Nat} {t : TypeId} {cs : List Value} (h : Bk w g t cs) (i : Nat) (u : Value) : Bk (w.setCell ⟨g, i, none⟩ u) g t (cs.set i u) := by
  have := heap_setCell_same w g i cs.toArray t u h
  unfold Bk
  rw [this]
  simp
theorem Bk.far {w : World} {g : Nat} {t : TypeId} {cs : List Value} (h : Bk w g t cs) {p : Addr} (hp : g ≠ p.block) (u : Value) : Bk (w.setCell p u) g t cs := (Below.heap_setCell w p u g hp).trans h
theorem Bk.drew {w : World} {g : Nat} {t : TypeId} {cs : List Value} (h : Bk w g t cs) : Bk w.drew g t cs := h
end Go.Proofs.YtjebjninlejoeaaGreatDoor
