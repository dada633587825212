/- net: a row of links, as the sort knows it. -/
import Derived.Test.YtenkhbiikecegaaGreatNSort
namespace Go.Proofs.YtenkhbiikecegaaGreat
open Go.RowKit Go.Maps Go.ChangeMaps Go.Shelf Go.Lib Go.Sort
set_option linter.unusedVariables false
set_option linter.unusedSimpArgs false
set_option maxRecDepth 100000

/-- The cells of links. -/
def lkC (l : List (Int × Int)) : List Value := l.flatMap encK
theorem lkC_len (l : List (Int × Int)) : (lkC l).length = l.length * 2 := by
  induction l with
  | nil => rfl
  | cons x l ih => simp [lkC, encK] at ih ⊢; omega
theorem lkC_snoc (l : List (Int × Int)) (x : Int × Int) : lkC (l ++ [x]) = lkC l ++ [.int .i64 x.1, .int .i64 x.2] := by simp [lkC, encK]
theorem lkC_get : ∀ (l : List (Int × Int)) (t : Nat), t < l.length * 2 → (lkC l)[t]? = some ((encK l[t / 2]!)[t % 2]!)
  | [], t, h => by simp at h
  | x :: l, 0, h => rfl
  | x :: l, 1, h => rfl
  | x :: l, t + 2, h => by
    have ih := lkC_get l t (by simp at h; omega)
    have e : lkC (x :: l) = .int .i64 x.1 :: .int .i64 x.2 :: lkC l := rfl
    rw [e, List.getElem?_cons_succ, List.getElem?_cons_succ, ih]
    rw [show (t + 2) / 2 = t / 2 + 1 by omega, show (t + 2) % 2 = t % 2 by omega]
    simp
theorem flat_get (d : Array (Int × Int)) (t : Nat) (h : t < d.size * 2) : (lkC d.toList)[t]? = some ((flatK encK 2 d)[t]!) := by
  rw [lkC_get _ _ (by simpa using h), get_flatK _ _ _ _ h]
  rw [getElem!_pos d.toList (t / 2) (by simp; omega), getElem!_pos d (t / 2) (by omega)]
  simp
theorem owned_holds {w : World} {base blk cap n : Nat} {d : Array (Int × Int)} (h : w.ownsRow base 38 2 (.slice (some ⟨blk, 0, none⟩) n cap) n (lkC d.toList)) (hn : n = d.size) : HoldsK encK 2 w blk 0 d ∧ blk < w.heap.size ∧ base ≤ blk := by
  rcases h.2 with ⟨q, _⟩ | ⟨g, cap', cur, e, hb, hg, h1, h2, h3, h4⟩
  · cases q
  · injection e with e1 e2 e3
    injection e1 with e1
    injection e1 with e1
    subst e1 e3
    refine ⟨fun j hj => ?_, (Array.getElem?_eq_some_iff.1 hg).1, hb⟩
    simp only [size_flatK] at hj
    have := flat_get d j hj
    rw [← h4, List.getElem?_take, if_pos (by omega)] at this
    refine ⟨?_, frozen_of_row w blk _ cur _ hg⟩
    rw [Nat.zero_add, cell_of_row w blk j cur _ (0, 0) hg, ← Array.getElem?_toList, this]
    rfl
theorem sorted_row {w : World} {base blk cap k n : Nat} {d d' : Array (Int × Int)} (os : Array Obj) (h : w.ownsRow base 38 2 (.slice (some ⟨blk, 0, none⟩) n cap) n (lkC d.toList)) (hn : n = d.size) (hs : d'.size = d.size) :
    (sortWorldK encK 2 w blk 0 k d' os).ownsRow base 38 2 (.slice (some ⟨blk, 0, none⟩) n cap) n (lkC d'.toList) ∧ w.grownBy (sortWorldK encK 2 w blk 0 k d' os) (some blk) := by
  rcases h.2 with ⟨q, _⟩ | ⟨g, cap', cur, e, hb, hg, h1, h2, h3, h4⟩
  · cases q
  · injection e with e1 e2 e3
    injection e1 with e1
    injection e1 with e1
    subst e1 e3
    have hl := (Array.getElem?_eq_some_iff.1 hg).1
    have hsz : (putRowK encK 2 (Sort.ahead w k) blk 0 d').heap.size = w.heap.size := by
      rw [size_putRowK]; rfl
    have hblk : (sortWorldK encK 2 w blk 0 k d' os).heap[blk]? = some (.cells (putCells id 0 (flatK encK 2 d') cur) 38 (0, 0)) := by
      unfold sortWorldK
      rw [heap_grow_old _ _ (by rw [hsz]; exact hl)]
      unfold putRowK putRow mapBlock
      show (w.heap.modify blk _)[blk]? = _
      rw [Array.getElem?_modify, if_pos rfl, hg]
      rfl
    refine ⟨⟨by rw [lkC_len]; simp; omega, .inr ⟨blk, cap, _, rfl, hb, hblk, h1, h2, by simp [putCells]; exact h3, ?_⟩⟩, rfl, rfl, rfl, ?_, fun i hi hne => ?_⟩
    · refine List.ext_getElem? fun t => ?_
      rw [List.getElem?_take]
      split
      next ht =>
        rw [flat_get d' t (by omega)]
        simp only [putCells, Array.getElem?_toList, Array.getElem?_mapIdx]
        rw [Array.getElem?_eq_getElem (by omega)]
        simp only [Option.map_some, size_flatK]
        rw [if_pos (by omega)]
        rfl
      next ht =>
        rw [List.getElem?_eq_none]
        rw [lkC_len]; simp; omega
    · unfold sortWorldK
      rw [size_grow, hsz]
      omega
    · unfold sortWorldK
      rw [heap_grow_old _ _ (by rw [hsz]; exact hi)]
      unfold putRowK putRow mapBlock
      show (w.heap.modify blk _)[i]? = _
      rw [Array.getElem?_modify, if_neg (fun e => hne (by rw [e]))]
theorem perm_list {d d' : Array (Int × Int)} (h : PermIn 0 d.size d d') : d'.toList.Perm d.toList := by
  obtain ⟨h1, _, h2⟩ := h
  have e1 : d'.extract 0 d.size = d' := by rw [← h1]; simp
  have e2 : d.extract 0 d.size = d := by simp
  rw [e1, e2] at h2
  exact h2
theorem sorted_list {d : Array (Int × Int)} (hn : d.toList.Nodup) (h : SortedIn ltL 0 d.size d) : d.toList.Pairwise fun x y => ltL x y = true := by
  rw [List.pairwise_iff_getElem]
  intro i j hi hj hij
  simp at hi hj
  have h1 := h i j (by omega) hij hj
  rw [getElem!_pos d j hj, getElem!_pos d i hi] at h1
  simp only [Array.getElem_toList]
  have hne : d[i] ≠ d[j] := by
    have := (List.pairwise_iff_getElem.1 hn) i j (by simpa using hi) (by simpa using hj) hij
    simpa using this
  simp only [ltL, decide_eq_false_iff_not, decide_eq_true_eq] at h1 ⊢
  have h3 : ¬ (d[i].1 = d[j].1 ∧ d[i].2 = d[j].2) := fun e => hne (Prod.ext e.1 e.2)
  omega
/-- A row of links is sorted. -/
theorem sort_row {w : World} {base blk cap n : Nat} {l : List (Int × Int)} (h : w.ownsRow base 38 2 (.slice (some ⟨blk, 0, none⟩) n cap) n (lkC l)) (hn : n = l.length) (hnd : l.Nodup) (hsz : n ≤ 1000000) :
    Calls Tryz.prog 30 #[.slice (some ⟨blk, 0, none⟩) n cap, .func (.func 31) #[] #[]] w fun e w' => e = .returned (.tuple #[]) ∧ ∃ L, L.Perm l ∧ (L.Pairwise fun x y => ltL x y = true) ∧ w'.ownsRow base 38 2 (.slice (some ⟨blk, 0, none⟩) n cap) n (lkC L) ∧ w.grownBy w' (some blk) := by
  subst hn
  have h' : w.ownsRow base 38 2 (.slice (some ⟨blk, 0, none⟩) l.length cap) l.length (lkC l.toArray.toList) := h
  obtain ⟨hh, hb, _⟩ := owned_holds (d := l.toArray) h' (by simp)
  have hc := sort_any blk cap l.toArray w hh hb (by simp; omega)
  refine Calls.mono (R := _) hc ?_
  rintro e w' ⟨he, d', n', os, hp, hs, rfl⟩
  have hs' : d'.size = l.toArray.size := hp.1
  obtain ⟨k1, k2⟩ := sorted_row (k := n') os h' (by simp) hs'
  have hpl := perm_list hp
  exact ⟨he, d'.toList, hpl, sorted_list (hpl.nodup_iff.2 (by simpa using hnd)) (by rw [hs']; exact hs), k1, k2⟩
end Go.Proofs.YtenkhbiikecegaaGreat
