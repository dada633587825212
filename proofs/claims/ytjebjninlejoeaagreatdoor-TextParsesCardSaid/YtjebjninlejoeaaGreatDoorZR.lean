/- The bag: putIns. apart, ApartIns. -/
import Derived.Test.YtjebjninlejoeaaGreatDoorKFlatN
import Derived.Test.YtjebjninlejoeaaGreatDoorKFlatI
import Derived.Test.YtjebjninlejoeaaGreatDoorZQ
namespace Go.Proofs.YtjebjninlejoeaaGreatDoor
open Go.RowKit
set_option linter.unusedVariables false
set_option maxRecDepth 100000

/-- The bag's cells, with lists of bytes and of entries alone. -/
def bagV (vB vE : Value) : Array Value := #[.slice none 0 0, .slice none 0 0, .slice none 0 0, .slice none 0 0, .slice none 0 0, .slice none 0 0, .slice none 0 0, vB, .slice none 0 0, .slice none 0 0, .slice none 0 0, .slice none 0 0, .slice none 0 0, .slice none 0 0, .slice none 0 0, vE, .slice none 0 0, .slice none 0 0, .slice none 0 0, .slice none 0 0, .slice none 0 0]
structure BagS (w : World) (p N : Nat) (vB : Value) (xB : List Value) (vE : Value) (xE : List Value) : Prop where
  obj : w.heap[p]? = some (.cells (bagV vB vE) 82 (0, 0))
  np : N ≤ p
  rb : w.ownsRow N 23 1 vB xB.length xB
  re : w.ownsRow N 232 1 vE xE.length xE
  pb : vB.ownBlock ≠ some p
  pe : vE.ownBlock ≠ some p
  be : ∀ g, vB.ownBlock = some g → vE.ownBlock ≠ some g
theorem BagS.below {w w' : World} {p N : Nat} {vB vE : Value} {xB xE : List Value} (h : BagS w p N vB xB vE xE) (hb : Below w.heap.size w w') : BagS w' p N vB xB vE xE :=
  ⟨(hb.block p (Array.getElem?_eq_some_iff.1 h.obj).1).trans h.obj, h.np, owns_keep h.rb (fun g e => hb.block g (owns_block h.rb g e).2), owns_keep h.re (fun g e => hb.block g (owns_block h.re g e).2), h.pb, h.pe, h.be⟩
theorem BagS.plt {w : World} {p N : Nat} {vB vE : Value} {xB xE : List Value} (h : BagS w p N vB xB vE xE) : p < w.heap.size := (Array.getElem?_eq_some_iff.1 h.obj).1
theorem BagS.cell {w : World} {p N : Nat} {vB vE : Value} {xB xE : List Value} (h : BagS w p N vB xB vE xE) (i : Nat) : w.cell? ⟨p, i, none⟩ = (bagV vB vE)[i]? := cell_of_row w p i _ _ _ h.obj
theorem sl1 (x : Value) (hx : ∃ A n c, x = Value.slice A n c) : ∀ u ∈ [x], u.oneCell' = true := by
  obtain ⟨A, n, c, rfl⟩ := hx
  intro u hu
  simp at hu
  subst hu
  rfl
theorem BagS.putB {w w2 : World} {p N : Nat} {vB vE v' : Value} {xB xE : List Value} {x : Value} {g' : Nat} {o : Obj} (h : BagS w p N vB xB vE xE) (hgr : (w.alloc o).grownBy w2 vB.ownBlock)
    (hown : w2.ownsRow N 23 1 v' (xB.length + 1) (xB ++ [x])) (hv : v'.ownBlock = some g') (hg : g' = (w.alloc o).heap.size ∨ vB.ownBlock = some g') :
    BagS (w2.setCell ⟨p, 7, none⟩ v') p N v' (xB ++ [x]) vE xE ∧ Below N w (w2.setCell ⟨p, 7, none⟩ v') := by
  have hp := h.plt
  have hs := hgr.size
  have hsa : (w.alloc o).heap.size = w.heap.size + 1 := by simp
  have hobj : w2.heap[p]? = some (.cells (bagV vB vE) 82 (0, 0)) := by
    rw [hgr.block p (by omega) (fun e => h.pb e.symm), heap_alloc_old w _ hp]; exact h.obj
  have hgp : g' ≠ p := by
    rcases hg with e | e
    · omega
    · exact fun e' => h.pb (by rw [e, e'])
  have hN : N ≤ w.heap.size := Nat.le_trans h.np (Nat.le_of_lt hp)
  refine ⟨⟨?_, h.np, ?_, ?_, ?_, h.pe, ?_⟩, ?_⟩
  · rw [heap_setCell_same _ _ _ _ _ _ hobj]
    simp [bagV]
  · rw [List.length_append]
    refine owns_keep hown (fun g e => Below.heap_setCell _ _ _ _ (fun e' => ?_))
    rw [hv] at e
    injection e with e
    exact hgp (e.trans e')
  · refine owns_keep h.re (fun g e => ?_)
    rw [Below.heap_setCell _ _ _ _ (fun e' => h.pe (by rw [e]; exact congrArg some e')), hgr.block g (by have := (owns_block h.re g e).2; omega) (fun e' => h.be g e'.symm e), heap_alloc_old w _ (owns_block h.re g e).2]
  · rw [hv]; exact fun e => hgp (by injection e)
  · intro g e e2
    rw [hv] at e
    injection e with e
    subst e
    rcases hg with e3 | e3
    · have := (owns_block h.re _ e2).2; omega
    · exact h.be _ e3 e2
  · exact ((((Below.refl N w).alloc hN _).grown hgr (by simp; omega) (fun k e => (owns_block h.rb k e).1))).setCell h.np _
theorem putIns_any (p N : Nat) (vB vE : Value) (xB xE : List Value) (A : Option Addr) (n c : Nat) (w : World) (h : BagS w p N vB xB vE xE) (hl : xB.length ≤ 10000000) :
    Calls Tryz.prog 30 #[.pointer (some ⟨p, 0, none⟩), .slice A n c] w fun e w' => (∃ r, e = .returned r) ∧ (∃ vB', BagS w' p N vB' (xB ++ [.slice A n c]) vE xE) ∧ Below N w w' := by
  obtain ⟨i0, hi, hz0, hz1, hz2⟩ := info_parts (show (Tryz.prog.info? 23).map (fun i => (i.zero, i.size, i.bytes)) = some (some (.slice none 0 0), 1, 24) by kernel_rfl)
  obtain ⟨A0, c0, rfl⟩ := owns_form h.rb
  have hc := h.cell 7
  simp only [bagV, List.getElem?_toArray, List.getElem?_cons_zero, List.getElem?_cons_succ] at hc
  have hN : N ≤ w.heap.size := Nat.le_trans h.np (Nat.le_of_lt h.plt)
  have hown : ∀ o, (w.alloc o).ownsRow N 23 1 (.slice A0 xB.length c0) xB.length xB := fun o => h.rb.alloc o
  go_enter Tryz.func30, Tryz.ntmps30
  go_wp2_with (at_builtin; refine wpList_append_full _ rfl (.tmp 8) (.tmp 10) 31 rfl 23 i0 (.slice none 0 0) 1 24 Tryz.underlying31 hi hz0 hz1 hz2 rfl N _ xB.length xB rfl (hown _) (by simp; omega) ⟨w.heap.size, 0, none⟩ 1 1 [.slice A n c] rfl rfl ?c1 (sl1 _ ⟨_, _, _, rfl⟩) (by unfold maxLen; omega) (by omega) (by decide) ?_)
  case c1 => exact news_new w [.slice A n c] 23
  intro v' w3 g' hown3 hgr3 hv3 hg3
  have HB := Lib.hid (h.putB hgr3 hown3 hv3 (by simpa using hg3))
  have h3 : w3.heap[p]? = some (.cells (bagV (.slice A0 xB.length c0) vE) 82 (0, 0)) := by
    rw [hgr3.block p (by have := h.plt; simp; omega) (fun e => h.pb e.symm), heap_alloc_old w _ h.plt]; exact h.obj
  have hf := frozen_blk h3 7
  have hc3 : w3.cell? ⟨p, 7, none⟩ = some (.slice A0 xB.length c0) := by rw [cell_of_row w3 p 7 _ _ _ h3]; rfl
  obtain ⟨A', c', rfl⟩ := owns_form hown3
  clear hown hown3 hgr3 h3 hv3 hg3 h hc
  go_wp2_with fail
  go_end0
  exact ⟨⟨_, rfl⟩, ⟨_, HB.out.1⟩, HB.out.2⟩
end Go.Proofs.YtjebjninlejoeaaGreatDoor
namespace Go.Proofs.YtjebjninlejoeaaGreatDoor
open Go.RowKit
set_option linter.unusedVariables false
set_option maxRecDepth 100000

theorem outer_of {w : World} {N e : Nat} {v : Value} {S : Nat → Prop} {ls : List Fs} (h : w.ownsRow N e 1 v ls.length (ls.map (·.v))) (hS : ∀ b, S b → b < N) : ∃ A c, v = .slice A ls.length c ∧ Outer w S A c ls := by
  have hcell : ∀ g, v.ownBlock = some g → _ := fun g hg => World.ownsRow.cells (g := g) h hg
  rcases h.2 with ⟨h1, h2⟩ | ⟨g, cap, cur, h1, hb, hg, h2, h3, h4, h5⟩
  · have : ls = [] := List.eq_nil_of_length_eq_zero h2
    subst this
    exact ⟨none, 0, h1, ⟨Rd.none_ _ _ _ _ (fun _ => rfl), Nat.le_refl _, by decide⟩⟩
  · refine ⟨_, cap, h1, ⟨⟨(fun e => by cases e), fun _ => ⟨_, rfl, ⟨fun hs => ?_, (Array.getElem?_eq_some_iff.1 hg).1⟩, hcell g (by rw [h1]; rfl)⟩⟩, h2, h3⟩⟩
    have := hS _ hs
    simp only [] at this
    omega
theorem Ag.row {w w' : World} {K : Nat → Prop} {base e size n : Nat} {v : Value} {xs : List Value} (ha : Ag K w w') (h : w.ownsRow base e size v n xs) (hK : ∀ g, base ≤ g → K g) : w'.ownsRow base e size v n xs :=
  owns_keep h (fun g e => ha.block g (owns_block h g e).2 (hK g (owns_block h g e).1))
set_option maxHeartbeats 4000000 in
theorem apartI_any (p N : Nat) (vB : Value) (lsB : List Fs) (CB : Nat → List Value) (SB : Nat → Prop) (w : World) (h : BagS w p N vB (lsB.map (·.v)) (.slice none 0 0) []) (hB : Fl w 40 8 SB lsB CB)
    (hSB : ∀ b, SB b → b < N) (n1 : lsB.length ≤ 1000000) (n2 : ∀ x ∈ lsB, x.n ≤ 1000000) :
    Calls Tryz.prog 31 #[.pointer (some ⟨p, 0, none⟩)] w fun e w' => e = .returned (.bool true) ∧ Ag (fun b => ¬ SB b) w w' := by
  have hp := h.plt
  have hpB : ¬ SB p := fun e => by have := hSB p e; have := h.np; omega
  have hNw : N ≤ w.heap.size := Nat.le_trans h.np (Nat.le_of_lt hp)
  have H := Lib.hid h
  have HB := Lib.hid hB
  clear h hB
  go_enter Tryz.func31, Tryz.ntmps31
  have W0 : Below w.heap.size w w := Below.refl _ _
  have c0 : w.cell? ⟨p, 0, none⟩ = some (.slice none 0 0) := (cell_of_row w p 0 _ _ _ ((W0.block p hp).trans H.out.obj)).trans rfl
  go_wp2_with fail
  refine (flatLimbs_nil _).mono ?_
  rintro _ w1 ⟨rfl, hb⟩
  have W1 : Below w.heap.size w w1 := W0.trans (hb.mono W0.size)
  clear c0 hb W0
  have c1 : w1.cell? ⟨p, 1, none⟩ = some (.slice none 0 0) := (cell_of_row w1 p 1 _ _ _ ((W1.block p hp).trans H.out.obj)).trans rfl
  go_wp2_with fail
  refine (flatWords_nil _).mono ?_
  rintro _ w2 ⟨rfl, hb⟩
  have W2 : Below w.heap.size w w2 := W1.trans (hb.mono W1.size)
  clear c1 hb W1
  have c2 : w2.cell? ⟨p, 2, none⟩ = some (.slice none 0 0) := (cell_of_row w2 p 2 _ _ _ ((W2.block p hp).trans H.out.obj)).trans rfl
  go_wp2_with fail
  refine (flatInts_nil _).mono ?_
  rintro _ w3 ⟨rfl, hb⟩
  have W3 : Below w.heap.size w w3 := W2.trans (hb.mono W2.size)
  clear c2 hb W2
  have c3 : w3.cell? ⟨p, 3, none⟩ = some (.slice none 0 0) := (cell_of_row w3 p 3 _ _ _ ((W3.block p hp).trans H.out.obj)).trans rfl
  go_wp2_with fail
  refine (flatLongs_nil _).mono ?_
  rintro _ w4 ⟨rfl, hb⟩
  have W4 : Below w.heap.size w w4 := W3.trans (hb.mono W3.size)
  clear c3 hb W3
  have c4 : w4.cell? ⟨p, 4, none⟩ = some (.slice none 0 0) := (cell_of_row w4 p 4 _ _ _ ((W4.block p hp).trans H.out.obj)).trans rfl
  go_wp2_with fail
  refine (flatTexts_nil _).mono ?_
  rintro _ w5 ⟨rfl, hb⟩
  have W5 : Below w.heap.size w w5 := W4.trans (hb.mono W4.size)
  clear c4 hb W4
  have c5 : w5.cell? ⟨p, 5, none⟩ = some (.slice none 0 0) := (cell_of_row w5 p 5 _ _ _ ((W5.block p hp).trans H.out.obj)).trans rfl
  go_wp2_with fail
  refine (flatBytes_nil _).mono ?_
  rintro _ w6 ⟨rfl, hb⟩
  have W6 : Below w.heap.size w w6 := W5.trans (hb.mono W5.size)
  clear c5 hb W5
  have c6 : w6.cell? ⟨p, 6, none⟩ = some (.slice none 0 0) := (cell_of_row w6 p 6 _ _ _ ((W6.block p hp).trans H.out.obj)).trans rfl
  go_wp2_with fail
  refine (flatTruths_nil _).mono ?_
  rintro _ w7 ⟨rfl, hb⟩
  have W7 : Below w.heap.size w w7 := W6.trans (hb.mono W6.size)
  clear c6 hb W6
  obtain ⟨AB, cB, rfl, hoB⟩ := outer_of (S := SB) (owns_keep H.out.rb (fun g e => W7.block g (owns_block H.out.rb g e).2) |> fun h => by rw [List.length_map] at h; exact h) hSB
  have c7 : w7.cell? ⟨p, 7, none⟩ = some (.slice AB lsB.length cB) := (cell_of_row w7 p 7 _ _ _ ((W7.block p hp).trans H.out.obj)).trans rfl
  go_wp2_with fail
  refine (flatIns_any SB lsB CB AB cB w7 (HB.out.below W7) hoB (fun b hb => Nat.lt_of_lt_of_le (hSB b hb) (Nat.le_trans hNw W7.size)) n1 n2).mono ?_
  rintro _ w8 ⟨rfl, hb⟩
  have W8 : Ag (fun b => ¬ SB b) w w8 := (Ag.of_below _ W7).trans hb
  clear c7 hb W7 hoB HB
  have c8 : w8.cell? ⟨p, 8, none⟩ = some (.slice none 0 0) := (cell_of_row w8 p 8 _ _ _ ((W8.block p hp hpB).trans H.out.obj)).trans rfl
  go_wp2_with fail
  refine (flatSpans_nil _).mono ?_
  rintro _ w9 ⟨rfl, hb⟩
  have W9 : Ag (fun b => ¬ SB b) w w9 := W8.trans (Ag.of_below _ hb)
  clear c8 hb W8
  have c9 : w9.cell? ⟨p, 9, none⟩ = some (.slice none 0 0) := (cell_of_row w9 p 9 _ _ _ ((W9.block p hp hpB).trans H.out.obj)).trans rfl
  go_wp2_with fail
  refine (flatKnowns_nil _).mono ?_
  rintro _ w10 ⟨rfl, hb⟩
  have W10 : Ag (fun b => ¬ SB b) w w10 := W9.trans (Ag.of_below _ hb)
  clear c9 hb W9
  have c10 : w10.cell? ⟨p, 10, none⟩ = some (.slice none 0 0) := (cell_of_row w10 p 10 _ _ _ ((W10.block p hp hpB).trans H.out.obj)).trans rfl
  go_wp2_with fail
  refine (flatPlaces_nil _).mono ?_
  rintro _ w11 ⟨rfl, hb⟩
  have W11 : Ag (fun b => ¬ SB b) w w11 := W10.trans (Ag.of_below _ hb)
  clear c10 hb W10
  have c11 : w11.cell? ⟨p, 11, none⟩ = some (.slice none 0 0) := (cell_of_row w11 p 11 _ _ _ ((W11.block p hp hpB).trans H.out.obj)).trans rfl
  go_wp2_with fail
  refine (flatFaults_nil _).mono ?_
  rintro _ w12 ⟨rfl, hb⟩
  have W12 : Ag (fun b => ¬ SB b) w w12 := W11.trans (Ag.of_below _ hb)
  clear c11 hb W11
  have c12 : w12.cell? ⟨p, 12, none⟩ = some (.slice none 0 0) := (cell_of_row w12 p 12 _ _ _ ((W12.block p hp hpB).trans H.out.obj)).trans rfl
  go_wp2_with fail
  refine (flatOutcomes_nil _).mono ?_
  rintro _ w13 ⟨rfl, hb⟩
  have W13 : Ag (fun b => ¬ SB b) w w13 := W12.trans (Ag.of_below _ hb)
  clear c12 hb W12
  have c13 : w13.cell? ⟨p, 13, none⟩ = some (.slice none 0 0) := (cell_of_row w13 p 13 _ _ _ ((W13.block p hp hpB).trans H.out.obj)).trans rfl
  go_wp2_with fail
  refine (flatFlats_nil _).mono ?_
  rintro _ w14 ⟨rfl, hb⟩
  have W14 : Ag (fun b => ¬ SB b) w w14 := W13.trans (Ag.of_below _ hb)
  clear c13 hb W13
  have c14 : w14.cell? ⟨p, 14, none⟩ = some (.slice none 0 0) := (cell_of_row w14 p 14 _ _ _ ((W14.block p hp hpB).trans H.out.obj)).trans rfl
  go_wp2_with fail
  refine (flatBundles_nil _).mono ?_
  rintro _ w15 ⟨rfl, hb⟩
  have W15 : Ag (fun b => ¬ SB b) w w15 := W14.trans (Ag.of_below _ hb)
  clear c14 hb W14
  have c15 : w15.cell? ⟨p, 15, none⟩ = some (.slice none 0 0) := (cell_of_row w15 p 15 _ _ _ ((W15.block p hp hpB).trans H.out.obj)).trans rfl
  go_wp2_with fail
  refine (flatEntries_nil _).mono ?_
  rintro _ w16 ⟨rfl, hb⟩
  have W16 : Ag (fun b => ¬ SB b) w w16 := W15.trans (Ag.of_below _ hb)
  clear c15 hb W15
  have c16 : w16.cell? ⟨p, 16, none⟩ = some (.slice none 0 0) := (cell_of_row w16 p 16 _ _ _ ((W16.block p hp hpB).trans H.out.obj)).trans rfl
  go_wp2_with fail
  refine (flatHeldRow_nil _).mono ?_
  rintro _ w17 ⟨rfl, hb⟩
  have W17 : Ag (fun b => ¬ SB b) w w17 := W16.trans (Ag.of_below _ hb)
  clear c16 hb W16
  have c17 : w17.cell? ⟨p, 17, none⟩ = some (.slice none 0 0) := (cell_of_row w17 p 17 _ _ _ ((W17.block p hp hpB).trans H.out.obj)).trans rfl
  go_wp2_with fail
  refine (flatRegistries_nil _).mono ?_
  rintro _ w18 ⟨rfl, hb⟩
  have W18 : Ag (fun b => ¬ SB b) w w18 := W17.trans (Ag.of_below _ hb)
  clear c17 hb W17
  have c18 : w18.cell? ⟨p, 18, none⟩ = some (.slice none 0 0) := (cell_of_row w18 p 18 _ _ _ ((W18.block p hp hpB).trans H.out.obj)).trans rfl
  go_wp2_with fail
  refine (flatLetters_nil _).mono ?_
  rintro _ w19 ⟨rfl, hb⟩
  have W19 : Ag (fun b => ¬ SB b) w w19 := W18.trans (Ag.of_below _ hb)
  clear c18 hb W18
  have c19 : w19.cell? ⟨p, 19, none⟩ = some (.slice none 0 0) := (cell_of_row w19 p 19 _ _ _ ((W19.block p hp hpB).trans H.out.obj)).trans rfl
  go_wp2_with fail
  refine (flatSteps_nil _).mono ?_
  rintro _ w20 ⟨rfl, hb⟩
  have W20 : Ag (fun b => ¬ SB b) w w20 := W19.trans (Ag.of_below _ hb)
  clear c19 hb W19
  have c20 : w20.cell? ⟨p, 20, none⟩ = some (.slice none 0 0) := (cell_of_row w20 p 20 _ _ _ ((W20.block p hp hpB).trans H.out.obj)).trans rfl
  go_wp2_with fail
  refine (flatTales_nil _).mono ?_
  rintro _ w21 ⟨rfl, hb⟩
  have W21 : Ag (fun b => ¬ SB b) w w21 := W20.trans (Ag.of_below _ hb)
  clear c20 hb W20
  go_wp2_with fail
  go_ret
  exact ⟨rfl, W21⟩
theorem BagS.new (w : World) : BagS (w.alloc (.cells (bagV (.slice none 0 0) (.slice none 0 0)) 82)) w.heap.size w.heap.size (.slice none 0 0) [] (.slice none 0 0) [] :=
  ⟨heap_alloc_new w _, Nat.le_refl _, World.ownsRow_nil _ _ _ _, World.ownsRow_nil _ _ _ _, (fun e => by cases e), (fun e => by cases e), (fun g e => by cases e)⟩
set_option maxHeartbeats 1000000 in
theorem ApartIns_any (S : Nat → Prop) (ls : List Fs) (C : Nat → List Value) (A : Option Addr) (c : Nat) (w : World) (h : Fl w 40 8 S ls C) (ho : Outer w S A c ls) (hS : ∀ b, S b → b < w.heap.size) (hn : ls.length ≤ 1000000) (hl : ∀ x ∈ ls, x.n ≤ 1000000) :
    Calls Tryz.prog 11 #[.slice A ls.length c] w fun e w' => e = .returned (.bool true) ∧ Ag (fun b => ¬ S b) w w' := by
  have hB0 := BagS.new w
  unfold bagV at hB0
  have HB := Lib.hid hB0
  clear hB0
  go_enter Tryz.func11, Tryz.ntmps11
  go_wp2_with fail
  go_loopw [4] (fun i wr => ∃ k : Nat, k ≤ ls.length ∧ i = .int .i64 k ∧ (∃ vB', BagS wr w.heap.size w.heap.size vB' ((ls.map (·.v)).take k) (.slice none 0 0) []) ∧ Below w.heap.size w wr) (fun i _ => ls.length - (intOf i).toNat)
  case atStart => exact ⟨0, Nat.zero_le _, rfl, ⟨_, by simpa using HB.out⟩, (Below.refl _ _).alloc (Nat.le_refl _) _⟩
  case round =>
    clear HB
    obtain ⟨k, hk, rfl, ⟨vB', hB⟩, hb⟩ := hrel
    by_cases hlt : k < ls.length
    · have d1 : decide ((k : Int) < (ls.length : Int)) = true := decide_eq_true (by omega)
      obtain ⟨a, x, A', c', rfl, hx, co, n1, n2, n3, hv⟩ := ho.list (Ag.of_below _ hb) (h.below hb) hlt
      clear n3
      have HT : Hid ((ls.map (·.v)).take (k + 1) = (ls.map (·.v)).take k ++ [.slice A' x.n c']) := Lib.hid (by rw [List.take_add_one, List.getElem?_map, hx.out, ← hv.out]; rfl)
      go_wp2_with fail
      refine (putIns_any w.heap.size w.heap.size vB' _ _ _ A' x.n c' wr hB (by simp; omega)).mono ?_
      rintro _ w2 ⟨⟨r, rfl⟩, hB2, hb2⟩
      rw [← HT.out] at hB2
      have hbw := hb.trans hb2
      clear co hb hb2 hB
      go_wp2_with fail
      go_roundw
      case rel => exact ⟨k + 1, by omega, by go_num, hB2, hbw⟩
      case measure => simp [intOf]; omega
    · have d1 : decide ((k : Int) < (ls.length : Int)) = false := decide_eq_false (by omega)
      rw [List.take_of_length_le (by simp; omega)] at hB
      go_wp2_with fail
      refine (apartI_any w.heap.size w.heap.size vB' ls C S wr hB (h.below hb) hS hn hl).mono ?_
      rintro _ w2 ⟨rfl, ha⟩
      go_wp2_with fail
      go_ret
      exact ⟨rfl, (Ag.of_below _ hb).trans ha⟩
end Go.Proofs.YtjebjninlejoeaaGreatDoor
