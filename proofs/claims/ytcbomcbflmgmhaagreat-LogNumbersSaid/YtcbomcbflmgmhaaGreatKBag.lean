/- The bag: putBytes, oneEntry, putEntries: over this seat's program. -/
import Derived.Test.YtcbomcbflmgmhaaGreatKFlatN
import Derived.Test.YtcbomcbflmgmhaaGreatKFlatB
namespace Go.Proofs.YtcbomcbflmgmhaaGreat
open Go.RowKit
set_option linter.unusedVariables false
set_option maxRecDepth 100000

/-- The bag's cells, with lists of bytes and of entries alone. -/
def bagV (vB vE : Value) : Array Value := #[.slice none 0 0, .slice none 0 0, .slice none 0 0, .slice none 0 0, .slice none 0 0, vB, .slice none 0 0, .slice none 0 0, .slice none 0 0, .slice none 0 0, .slice none 0 0, .slice none 0 0, .slice none 0 0, .slice none 0 0, .slice none 0 0, vE, .slice none 0 0, .slice none 0 0, .slice none 0 0, .slice none 0 0, .slice none 0 0]
structure BagS (w : World) (p N : Nat) (vB : Value) (xB : List Value) (vE : Value) (xE : List Value) : Prop where
  obj : w.heap[p]? = some (.cells (bagV vB vE) 101 (0, 0))
  np : N ≤ p
  rb : w.ownsRow N 51 1 vB xB.length xB
  re : w.ownsRow N 22 1 vE xE.length xE
  pb : vB.ownBlock ≠ some p
  pe : vE.ownBlock ≠ some p
  be : ∀ g, vB.ownBlock = some g → vE.ownBlock ≠ some g
theorem BagS.below {w w' : World} {p N : Nat} {vB vE : Value} {xB xE : List Value} (h : BagS w p N vB xB vE xE) (hb : Below w.heap.size w w') : BagS w' p N vB xB vE xE :=
  ⟨(hb.block p (Array.getElem?_eq_some_iff.1 h.obj).1).trans h.obj, h.np, owns_keep h.rb (fun g e => hb.block g (owns_block h.rb g e).2), owns_keep h.re (fun g e => hb.block g (owns_block h.re g e).2), h.pb, h.pe, h.be⟩
theorem BagS.plt {w : World} {p N : Nat} {vB vE : Value} {xB xE : List Value} (h : BagS w p N vB xB vE xE) : p < w.heap.size := (Array.getElem?_eq_some_iff.1 h.obj).1
theorem BagS.cell {w : World} {p N : Nat} {vB vE : Value} {xB xE : List Value} (h : BagS w p N vB xB vE xE) (i : Nat) : w.cell? ⟨p, i, none⟩ = (bagV vB vE)[i]? := cell_of_row w p i _ _ _ h.obj
theorem sl1 (x : Value) (hx : ∃ A n c, x = Value.slice A n c) : ∀ u ∈ [x], u.oneCell' = true := by
  obtain ⟨A, n, c, rfl⟩ := hx
  intro u hu
  simp at hu
  subst hu
  rfl
theorem BagS.putB {w w2 : World} {p N : Nat} {vB vE v' : Value} {xB xE : List Value} {x : Value} {g' : Nat} {o : Obj} (h : BagS w p N vB xB vE xE) (hgr : (w.alloc o).grownBy w2 vB.ownBlock)
    (hown : w2.ownsRow N 51 1 v' (xB.length + 1) (xB ++ [x])) (hv : v'.ownBlock = some g') (hg : g' = (w.alloc o).heap.size ∨ vB.ownBlock = some g') :
    BagS (w2.setCell ⟨p, 5, none⟩ v') p N v' (xB ++ [x]) vE xE ∧ Below N w (w2.setCell ⟨p, 5, none⟩ v') := by
  have hp := h.plt
  have hs := hgr.size
  have hsa : (w.alloc o).heap.size = w.heap.size + 1 := by simp
  have hobj : w2.heap[p]? = some (.cells (bagV vB vE) 101 (0, 0)) := by
    rw [hgr.block p (by omega) (fun e => h.pb e.symm), heap_alloc_old w _ hp]; exact h.obj
  have hgp : g' ≠ p := by
    rcases hg with e | e
    · omega
    · exact fun e' => h.pb (by rw [e, e'])
  have hN : N ≤ w.heap.size := Nat.le_trans h.np (Nat.le_of_lt hp)
  refine ⟨⟨?_, h.np, ?_, ?_, ?_, h.pe, ?_⟩, ?_⟩
  · rw [heap_setCell_same _ _ _ _ _ _ hobj]
    simp [bagV]
  · rw [List.length_append]
    refine owns_keep hown (fun g e => Below.heap_setCell _ _ _ _ (fun e' => ?_))
    rw [hv] at e
    injection e with e
    exact hgp (e.trans e')
  · refine owns_keep h.re (fun g e => ?_)
    rw [Below.heap_setCell _ _ _ _ (fun e' => h.pe (by rw [e]; exact congrArg some e')), hgr.block g (by have := (owns_block h.re g e).2; omega) (fun e' => h.be g e'.symm e), heap_alloc_old w _ (owns_block h.re g e).2]
  · rw [hv]; exact fun e => hgp (by injection e)
  · intro g e e2
    rw [hv] at e
    injection e with e
    subst e
    rcases hg with e3 | e3
    · have := (owns_block h.re _ e2).2; omega
    · exact h.be _ e3 e2
  · exact ((((Below.refl N w).alloc hN _).grown hgr (by simp; omega) (fun k e => (owns_block h.rb k e).1))).setCell h.np _
theorem BagS.putE {w w2 : World} {p N : Nat} {vB vE v' : Value} {xB xE : List Value} {x : Value} {g' : Nat} {o : Obj} (h : BagS w p N vB xB vE xE) (hgr : (w.alloc o).grownBy w2 vE.ownBlock)
    (hown : w2.ownsRow N 22 1 v' (xE.length + 1) (xE ++ [x])) (hv : v'.ownBlock = some g') (hg : g' = (w.alloc o).heap.size ∨ vE.ownBlock = some g') :
    BagS (w2.setCell ⟨p, 15, none⟩ v') p N vB xB v' (xE ++ [x]) ∧ Below N w (w2.setCell ⟨p, 15, none⟩ v') := by
  have hp := h.plt
  have hs := hgr.size
  have hsa : (w.alloc o).heap.size = w.heap.size + 1 := by simp
  have hobj : w2.heap[p]? = some (.cells (bagV vB vE) 101 (0, 0)) := by
    rw [hgr.block p (by omega) (fun e => h.pe e.symm), heap_alloc_old w _ hp]; exact h.obj
  have hgp : g' ≠ p := by
    rcases hg with e | e
    · omega
    · exact fun e' => h.pe (by rw [e, e'])
  have hN : N ≤ w.heap.size := Nat.le_trans h.np (Nat.le_of_lt hp)
  refine ⟨⟨?_, h.np, ?_, ?_, h.pb, ?_, ?_⟩, ?_⟩
  · rw [heap_setCell_same _ _ _ _ _ _ hobj]
    simp [bagV]
  · refine owns_keep h.rb (fun g e => ?_)
    rw [Below.heap_setCell _ _ _ _ (fun e' => h.pb (by rw [e]; exact congrArg some e')), hgr.block g (by have := (owns_block h.rb g e).2; omega) (fun e' => h.be g e e'.symm), heap_alloc_old w _ (owns_block h.rb g e).2]
  · rw [List.length_append]
    refine owns_keep hown (fun g e => Below.heap_setCell _ _ _ _ (fun e' => ?_))
    rw [hv] at e
    injection e with e
    exact hgp (e.trans e')
  · rw [hv]; exact fun e => hgp (by injection e)
  · intro g e e2
    rw [hv] at e2
    injection e2 with e2
    subst e2
    rcases hg with e3 | e3
    · have := (owns_block h.rb _ e).2; omega
    · exact h.be _ e e3
  · exact ((((Below.refl N w).alloc hN _).grown hgr (by simp; omega) (fun k e => (owns_block h.re k e).1))).setCell h.np _

theorem putBytes_any (p N : Nat) (vB vE : Value) (xB xE : List Value) (A : Option Addr) (n c : Nat) (w : World) (h : BagS w p N vB xB vE xE) (hl : xB.length ≤ 10000000) :
    Calls Tryz.prog 53 #[.pointer (some ⟨p, 0, none⟩), .slice A n c] w fun e w' => (∃ r, e = .returned r) ∧ (∃ vB', BagS w' p N vB' (xB ++ [.slice A n c]) vE xE) ∧ Below N w w' := by
  obtain ⟨i0, hi, hz0, hz1, hz2⟩ := info_parts (show (Tryz.prog.info? 51).map (fun i => (i.zero, i.size, i.bytes)) = some (some (.slice none 0 0), 1, 24) by kernel_rfl)
  obtain ⟨A0, c0, rfl⟩ := owns_form h.rb
  have hc := h.cell 5
  simp only [bagV, List.getElem?_toArray, List.getElem?_cons_zero, List.getElem?_cons_succ] at hc
  have hN : N ≤ w.heap.size := Nat.le_trans h.np (Nat.le_of_lt h.plt)
  have hown : ∀ o, (w.alloc o).ownsRow N 51 1 (.slice A0 xB.length c0) xB.length xB := fun o => h.rb.alloc o
  go_enter Tryz.func53, Tryz.ntmps53
  go_wp2_with (at_builtin; refine wpList_append_full _ rfl (.tmp 8) (.tmp 10) 70 rfl 51 i0 (.slice none 0 0) 1 24 Tryz.underlying70 hi hz0 hz1 hz2 rfl N _ xB.length xB rfl (hown _) (by simp; omega) ⟨w.heap.size, 0, none⟩ 1 1 [.slice A n c] rfl rfl ?c1 (sl1 _ ⟨_, _, _, rfl⟩) (by unfold maxLen; omega) (by omega) (by decide) ?_)
  case c1 => exact news_new w [.slice A n c] 51
  intro v' w3 g' hown3 hgr3 hv3 hg3
  have HB := Lib.hid (h.putB hgr3 hown3 hv3 (by simpa using hg3))
  have h3 : w3.heap[p]? = some (.cells (bagV (.slice A0 xB.length c0) vE) 101 (0, 0)) := by
    rw [hgr3.block p (by have := h.plt; simp; omega) (fun e => h.pb e.symm), heap_alloc_old w _ h.plt]; exact h.obj
  have hf := frozen_blk h3 5
  have hc3 : w3.cell? ⟨p, 5, none⟩ = some (.slice A0 xB.length c0) := by rw [cell_of_row w3 p 5 _ _ _ h3]; rfl
  obtain ⟨A', c', rfl⟩ := owns_form hown3
  clear hown hown3 hgr3 h3 hv3 hg3 h hc
  go_wp2_with fail
  go_end0
  exact ⟨⟨_, rfl⟩, ⟨_, HB.out.1⟩, HB.out.2⟩
theorem oneEntry_any (p N : Nat) (vB vE : Value) (xB xE : List Value) (e : En) (A : Option Addr) (c : Nat) (w : World) (h : BagS w p N vB xB vE xE) (hl : xB.length ≤ 10000000) :
    Calls Tryz.prog 58 #[.pointer (some ⟨p, 0, none⟩), enA e A c] w fun x w' => (∃ r, x = .returned r) ∧ (∃ vB', BagS w' p N vB' (xB ++ [.slice A e.data.length c]) vE xE) ∧ Below N w w' := by
  have hN : N ≤ w.heap.size := Nat.le_trans h.np (Nat.le_of_lt h.plt)
  unfold enA enV
  go_enter Tryz.func58, Tryz.ntmps58
  go_wp2_with fail
  refine (putBytes_any p N vB vE xB xE A e.data.length c _ (h.below ((Below.refl _ _).alloc (Nat.le_refl _) _)) hl).mono ?_
  rintro _ w1 ⟨⟨r, rfl⟩, hB, hb⟩
  go_wp2_with fail
  go_end0
  exact ⟨⟨_, rfl⟩, hB, ((Below.refl N w).alloc hN _).trans hb⟩
/-- The entries' bytes, as slices. -/
def dataV (es : List En) (ds : List (Option Addr × Nat)) : List Value := List.zipWith (fun (e : En) (d : Option Addr × Nat) => Value.slice d.1 e.data.length d.2) es ds
theorem dataV_len {es : List En} {ds : List (Option Addr × Nat)} (h : ds.length = es.length) : (dataV es ds).length = es.length := by simp [dataV, h]
theorem dataV_get {es : List En} {ds : List (Option Addr × Nat)} {k : Nat} {e : En} {d : Option Addr × Nat} (he : es[k]? = some e) (hd : ds[k]? = some d) : (dataV es ds)[k]? = some (.slice d.1 e.data.length d.2) := by
  simp [dataV, List.getElem?_zipWith, he, hd]
theorem dataV_take {es : List En} {ds : List (Option Addr × Nat)} {k : Nat} {e : En} {d : Option Addr × Nat} (he : es[k]? = some e) (hd : ds[k]? = some d) : (dataV es ds).take (k + 1) = (dataV es ds).take k ++ [.slice d.1 e.data.length d.2] := by
  rw [List.take_add_one, dataV_get he hd]; rfl
set_option maxHeartbeats 1000000 in
theorem putEntries_any (p N : Nat) (vB vE : Value) (xB xE : List Value) (v : Value) (g : Nat) (es : List En) (ds : List (Option Addr × Nat)) (w : World) (h : BagS w p N vB xB vE xE) (hr : Row w 53 6 v g es.length (rowV es ds)) (hgN : v.ownBlock = some g → g < N) (hds : ds.length = es.length) (hl : xB.length + es.length ≤ 10000000) (hl2 : xE.length ≤ 10000000) :
    Calls Tryz.prog 50 #[.pointer (some ⟨p, 0, none⟩), v] w fun e w' => (∃ r, e = .returned r) ∧ (∃ vB' vE', BagS w' p N vB' (xB ++ dataV es ds) vE' (xE ++ [v])) ∧ Below N w w' := by
  obtain ⟨i0, hi, hz0, hz1, hz2⟩ := info_parts (show (Tryz.prog.info? 22).map (fun i => (i.zero, i.size, i.bytes)) = some (some (.slice none 0 0), 1, 24) by kernel_rfl)
  obtain ⟨A0, c0, rfl⟩ := owns_form h.re
  obtain ⟨A, c, rfl, n1, n2, n3⟩ := hr.shape
  have hc := h.cell 15
  simp only [bagV, List.getElem?_toArray, List.getElem?_cons_zero, List.getElem?_cons_succ] at hc
  have hN : N ≤ w.heap.size := Nat.le_trans h.np (Nat.le_of_lt h.plt)
  have hown : ∀ o, (w.alloc o).ownsRow N 22 1 (.slice A0 xE.length c0) xE.length xE := fun o => h.re.alloc o
  have N3 := Lib.hid n3
  have HD := Lib.hid hds
  have HG := Lib.hid hgN
  have HR := Lib.hid hr
  clear n3 hds hgN hr
  go_enter Tryz.func50, Tryz.ntmps50
  go_wp2_with (at_builtin; refine wpList_append_full _ rfl (.tmp 9) (.tmp 11) 66 rfl 22 i0 (.slice none 0 0) 1 24 Tryz.underlying66 hi hz0 hz1 hz2 rfl N _ xE.length xE rfl (hown _) (by simp; omega) ⟨w.heap.size, 0, none⟩ 1 1 [.slice A es.length c] rfl rfl ?c1 (sl1 _ ⟨_, _, _, rfl⟩) (by unfold maxLen; omega) (by omega) (by decide) ?_)
  case c1 => exact news_new w [.slice A es.length c] 22
  intro v' w3 g' hown3 hgr3 hv3 hg3
  have HB := Lib.hid (h.putE hgr3 hown3 hv3 (by simpa using hg3))
  have h3 : w3.heap[p]? = some (.cells (bagV vB (.slice A0 xE.length c0)) 101 (0, 0)) := by
    rw [hgr3.block p (by have := h.plt; simp; omega) (fun e => h.pe e.symm), heap_alloc_old w _ h.plt]; exact h.obj
  have hf := frozen_blk h3 15
  have hc3 : w3.cell? ⟨p, 15, none⟩ = some (.slice A0 xE.length c0) := by rw [cell_of_row w3 p 15 _ _ _ h3]; rfl
  obtain ⟨A', c', rfl⟩ := owns_form hown3
  clear hown hown3 hgr3 h3 hv3 hg3 h hc
  go_wp2_with fail
  go_loopw [4] (fun i wr => ∃ k : Nat, k ≤ es.length ∧ i = .int .i64 k ∧ (∃ vB', BagS wr p N vB' (xB ++ (dataV es ds).take k) (.slice A' (xE.length + 1) c') (xE ++ [.slice A es.length c])) ∧ Below N w wr) (fun i _ => es.length - (intOf i).toNat)
  case atStart => exact ⟨0, Nat.zero_le _, rfl, ⟨vB, by simpa using HB.out.1⟩, HB.out.2⟩
  case round =>
    clear HB hf hc3
    obtain ⟨k, hk, rfl, ⟨vB', hB⟩, hb⟩ := hrel
    by_cases hlt : k < es.length
    · have d1 : decide ((k : Int) < (es.length : Int)) = true := decide_eq_true (by omega)
      obtain rfl := N3.out (by omega)
      have hx := List.getElem?_eq_getElem hlt
      have hkd : k < ds.length := by rw [HD.out]; exact hlt
      have hd := List.getElem?_eq_getElem hkd
      generalize es[k] = x at hx
      generalize ds[k] = d at hd
      obtain ⟨D, dc⟩ := d
      have hrr : Row wr 53 6 (.slice (some ⟨g, 0, none⟩) es.length c) g es.length (rowV es ds) := HR.out.keep (fun e => hb.block g (HG.out e))
      have hcc : ∀ j, j < 6 → wr.cell? ⟨g, k * 6 + j, none⟩ = (enV x D dc)[j]? := fun j hj => ((hrr.get (by omega)).1).trans (rowV_get es ds k x (D, dc) hx hd j hj)
      have a0 := hcc 0 (by omega)
      have a1 := hcc 1 (by omega)
      have a2 := hcc 2 (by omega)
      have a3 := hcc 3 (by omega)
      have a4 := hcc 4 (by omega)
      have a5 := hcc 5 (by omega)
      simp only [enV, List.getElem?_cons_zero, List.getElem?_cons_succ, Nat.add_zero] at a0 a1 a2 a3 a4 a5
      have hcon := oneEntry_any p N vB' _ _ _ x D dc wr hB (by simp; omega)
      have HT := Lib.hid (dataV_take hx hd)
      simp only [enA, enV] at hcon
      clear hcc hrr hx hd hB
      go_wp2_with fail
      refine hcon.mono ?_
      rintro _ w2 ⟨⟨r, rfl⟩, ⟨vB2, hB2⟩, hb2⟩
      rw [List.append_assoc, ← HT.out] at hB2
      have hbw := hb.trans hb2
      clear a0 a1 a2 a3 a4 a5 hcon hb hb2
      go_wp2_with fail
      go_roundw
      case rel => exact ⟨k + 1, by omega, by go_num, ⟨vB2, hB2⟩, hbw⟩
      case measure => simp [intOf]; omega
    · have d1 : decide ((k : Int) < (es.length : Int)) = false := decide_eq_false (by omega)
      rw [List.take_of_length_le (by rw [dataV_len HD.out]; omega)] at hB
      go_wp2_with fail
      go_end0
      exact ⟨⟨_, rfl⟩, ⟨_, _, hB⟩, hb⟩
end Go.Proofs.YtcbomcbflmgmhaaGreat
