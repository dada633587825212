/- The bag: putBytes, oneEntry, putEntries: over this seat's program. -/
import Derived.Test.YtenkhbiikecegaaGreatKFlatN
import Derived.Test.YtenkhbiikecegaaGreatKFlatB
import Derived.Test.YtenkhbiikecegaaGreatKFull
namespace Go.Proofs.YtenkhbiikecegaaGreat
open Go.RowKit
set_option linter.unusedVariables false
set_option maxRecDepth 100000

/-- The bag's cells, with lists of bytes and of entries alone. -/
def bagV (vB vE : Value) : Array Value := #[.slice none 0 0, .slice none 0 0, .slice none 0 0, .slice none 0 0, .slice none 0 0, vB, .slice none 0 0, .slice none 0 0, .slice none 0 0, .slice none 0 0, .slice none 0 0, .slice none 0 0, .slice none 0 0, .slice none 0 0, .slice none 0 0, vE, .slice none 0 0, .slice none 0 0, .slice none 0 0, .slice none 0 0, .slice none 0 0]
structure BagS (w : World) (p N : Nat) (vB : Value) (xB : List Value) (vE : Value) (xE : List Value) : Prop where
  obj : w.heap[p]? = some (.cells (bagV vB vE) 90 (0, 0))
  np : N ≤ p
  rb : w.ownsRow N 28 1 vB xB.length xB
  re : w.ownsRow N 179 1 vE xE.length xE
  pb : vB.ownBlock ≠ some p
  pe : vE.ownBlock ≠ some p
  be : ∀ g, vB.ownBlock = some g → vE.ownBlock ≠ some g
theorem BagS.below {w w' : World} {p N : Nat} {vB vE : Value} {xB xE : List Value} (h : BagS w p N vB xB vE xE) (hb : Below w.heap.size w w') : BagS w' p N vB xB vE xE :=
  ⟨(hb.block p (Array.getElem?_eq_some_iff.1 h.obj).1).trans h.obj, h.np, owns_keep h.rb (fun g e => hb.block g (owns_block h.rb g e).2), owns_keep h.re (fun g e => hb.block g (owns_block h.re g e).2), h.pb, h.pe, h.be⟩
theorem BagS.plt {w : World} {p N : Nat} {vB vE : Value} {xB xE : List Value} (h : BagS w p N vB xB vE xE) : p < w.heap.size := (Array.getElem?_eq_some_iff.1 h.obj).1
theorem BagS.cell {w : World} {p N : Nat} {vB vE : Value} {xB xE : List Value} (h : BagS w p N vB xB vE xE) (i : Nat) : w.cell? ⟨p, i, none⟩ = (bagV vB vE)[i]? := cell_of_row w p i _ _ _ h.obj
theorem sl1 (x : Value) (hx : ∃ A n c, x = Value.slice A n c) : ∀ u ∈ [x], u.oneCell' = true := by
  obtain ⟨A, n, c, rfl⟩ := hx
  intro u hu
  simp at hu
  subst hu
  rfl
theorem BagS.putB {w w2 : World} {p N : Nat} {vB vE v' : Value} {xB xE : List Value} {x : Value} {g' : Nat} {o : Obj} (h : BagS w p N vB xB vE xE) (hgr : (w.alloc o).grownBy w2 vB.ownBlock)
    (hown : w2.ownsRow N 28 1 v' (xB.length + 1) (xB ++ [x])) (hv : v'.ownBlock = some g') (hg : g' = (w.alloc o).heap.size ∨ vB.ownBlock = some g') :
    BagS (w2.setCell ⟨p, 5, none⟩ v') p N v' (xB ++ [x]) vE xE ∧ Below N w (w2.setCell ⟨p, 5, none⟩ v') := by
  have hp := h.plt
  have hs := hgr.size
  have hsa : (w.alloc o).heap.size = w.heap.size + 1 := by simp
  have hobj : w2.heap[p]? = some (.cells (bagV vB vE) 90 (0, 0)) := by
    rw [hgr.block p (by omega) (fun e => h.pb e.symm), heap_alloc_old w _ hp]; exact h.obj
  have hgp : g' ≠ p := by
    rcases hg with e | e
    · omega
    · exact fun e' => h.pb (by rw [e, e'])
  have hN : N ≤ w.heap.size := Nat.le_trans h.np (Nat.le_of_lt hp)
  refine ⟨⟨?_, h.np, ?_, ?_, ?_, h.pe, ?_⟩, ?_⟩
  · rw [heap_setCell_same _ _ _ _ _ _ hobj]
    simp [bagV]
  · rw [List.length_append]
    refine owns_keep hown (fun g e => Below.heap_setCell _ _ _ _ (fun e' => ?_))
    rw [hv] at e
    injection e with e
    exact hgp (e.trans e')
  · refine owns_keep h.re (fun g e => ?_)
    rw [Below.heap_setCell _ _ _ _ (fun e' => h.pe (by rw [e]; exact congrArg some e')), hgr.block g (by have := (owns_block h.re g e).2; omega) (fun e' => h.be g e'.symm e), heap_alloc_old w _ (owns_block h.re g e).2]
  · rw [hv]; exact fun e => hgp (by injection e)
  · intro g e e2
    rw [hv] at e
    injection e with e
    subst e
    rcases hg with e3 | e3
    · have := (owns_block h.re _ e2).2; omega
    · exact h.be _ e3 e2
  · exact ((((Below.refl N w).alloc hN _).grown hgr (by simp; omega) (fun k e => (owns_block h.rb k e).1))).setCell h.np _
theorem putBytes_any (p N : Nat) (vB vE : Value) (xB xE : List Value) (A : Option Addr) (n c : Nat) (w : World) (h : BagS w p N vB xB vE xE) (hl : xB.length ≤ 10000000) :
    Calls Tryz.prog 35 #[.pointer (some ⟨p, 0, none⟩), .slice A n c] w fun e w' => (∃ r, e = .returned r) ∧ (∃ vB', BagS w' p N vB' (xB ++ [.slice A n c]) vE xE) ∧ Below N w w' := by
  obtain ⟨i0, hi, hz0, hz1, hz2⟩ := info_parts (show (Tryz.prog.info? 28).map (fun i => (i.zero, i.size, i.bytes)) = some (some (.slice none 0 0), 1, 24) by kernel_rfl)
  obtain ⟨A0, c0, rfl⟩ := owns_form h.rb
  have hc := h.cell 5
  simp only [bagV, List.getElem?_toArray, List.getElem?_cons_zero, List.getElem?_cons_succ] at hc
  have hN : N ≤ w.heap.size := Nat.le_trans h.np (Nat.le_of_lt h.plt)
  have hown : ∀ o, (w.alloc o).ownsRow N 28 1 (.slice A0 xB.length c0) xB.length xB := fun o => h.rb.alloc o
  go_enter Tryz.func35, Tryz.ntmps35
  go_wp2_with (at_builtin; refine wpList_append_full _ rfl (.tmp 8) (.tmp 10) 27 rfl 28 i0 (.slice none 0 0) 1 24 Tryz.underlying27 hi hz0 hz1 hz2 rfl N _ xB.length xB rfl (hown _) (by simp; omega) ⟨w.heap.size, 0, none⟩ 1 1 [.slice A n c] rfl rfl ?c1 (sl1 _ ⟨_, _, _, rfl⟩) (by unfold maxLen; omega) (by omega) (by decide) ?_)
  case c1 => exact news_new w [.slice A n c] 28
  intro v' w3 g' hown3 hgr3 hv3 hg3
  have HB := Lib.hid (h.putB hgr3 hown3 hv3 (by simpa using hg3))
  have h3 : w3.heap[p]? = some (.cells (bagV (.slice A0 xB.length c0) vE) 90 (0, 0)) := by
    rw [hgr3.block p (by have := h.plt; simp; omega) (fun e => h.pb e.symm), heap_alloc_old w _ h.plt]; exact h.obj
  have hf := frozen_blk h3 5
  have hc3 : w3.cell? ⟨p, 5, none⟩ = some (.slice A0 xB.length c0) := by rw [cell_of_row w3 p 5 _ _ _ h3]; rfl
  obtain ⟨A', c', rfl⟩ := owns_form hown3
  clear hown hown3 hgr3 h3 hv3 hg3 h hc
  go_wp2_with fail
  go_end0
  exact ⟨⟨_, rfl⟩, ⟨_, HB.out.1⟩, HB.out.2⟩
end Go.Proofs.YtenkhbiikecegaaGreat
