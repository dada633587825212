/- net: no net. -/
import Derived.Test.YtenkhbiikecegaaNAwake
namespace Go.Proofs.Ytenkhbiikecegaa
open Go.RowKit Go.Maps Go.ChangeMaps
set_option linter.unusedVariables false
set_option linter.unusedSimpArgs false
set_option maxRecDepth 100000

/-- No net, or one that nobody made. -/
def Unk (w : World) (p : Option Addr) : Prop := p = none ∨ ∃ N, p = some ⟨N, 0, none⟩ ∧ N < w.heap.size ∧ w.cell? ⟨N, 0, none⟩ = some (.map none)
theorem Unk.below {w w' : World} {p : Option Addr} (h : Unk w p) (hb : Below w.heap.size w w') : Unk w' p := by
  rcases h with h | ⟨N, h1, h2, h3⟩
  · exact .inl h
  · exact .inr ⟨N, h1, Nat.lt_of_lt_of_le h2 hb.size, (World.cell?_of_block (hb.block N h2)).trans h3⟩
theorem known_unk (p : Option Addr) (w : World) (h : Unk w p) : Calls Try.prog 17 #[.pointer p] w fun e w' => e = .returned (.bool false) ∧ w = w' := by
  rcases h with rfl | ⟨N, rfl, _, h3⟩
  · exact known_nil w
  · exact known_zero N w h3
theorem send_unk (p : Option Addr) (a b : Int) (A : Option Addr) (n c : Nat) (w : World) (h : Unk w p) :
    Calls Try.prog 6 #[.pointer p, .int .i64 a, .int .i64 b, .slice A n c] w fun e w' => e = .returned (.int .i64 1) ∧ Below w.heap.size w w' := by
  have H := Lib.hid h
  clear h
  go_enter Try.func6, Try.ntmps6
  have hbx := (Below.refl w.heap.size w).alloc (Nat.le_refl _) (.cells #[.int .i64 a, .int .i64 b] 48)
  have kn := known_unk p _ (H.out.below hbx)
  go_wp2_with ((with_reducible refine kn.mono ?_); rintro _ w1 ⟨rfl, rfl⟩)
  go_ret
  exact ⟨rfl, hbx⟩
theorem with_unk (p : Option Addr) (a b k : Int) (f : Value) (w : World) (h : Unk w p) :
    Calls Try.prog 14 #[.pointer p, linkV a b, .int .i64 k, f] w fun e w' => e = .returned (.int .i64 1) ∧ Below w.heap.size w w' := by
  have H := Lib.hid h
  clear h
  unfold linkV
  go_enter Try.func14, Try.ntmps14
  have hbx := (Below.refl w.heap.size w).alloc (Nat.le_refl _) (.cells #[.int .i64 a, .int .i64 b] 48)
  have kn := known_unk p _ (H.out.below hbx)
  go_wp2_with ((with_reducible refine kn.mono ?_); rintro _ w1 ⟨rfl, rfl⟩)
  go_ret
  exact ⟨rfl, hbx⟩
theorem take_unk (p : Option Addr) (a b k : Int) (w : World) (h : Unk w p) :
    Calls Try.prog 5 #[.pointer p, .int .i64 a, .int .i64 b, .int .i64 k] w fun e w' => e = .returned (.tuple #[.slice none 0 0, .int .i64 1]) ∧ Below w.heap.size w w' := by
  have H := Lib.hid h
  clear h
  go_enter Try.func5, Try.ntmps5
  go_wp2_with fail
  obtain ⟨W, hW, b1, b2, b3, b4, bel, hsz⟩ := new4 w [.pointer p] [.int .i64 k] [.slice none 0 0] [.int .i64 a, .int .i64 b] 22 3 29 48
  rw [← hW]
  clear hW
  refine (with_unk p a b k _ W (H.out.below bel)).mono ?_
  rintro e w' ⟨rfl, bl⟩
  have q2 := b3.below bl b3.lt
  have z0 := q2.cell 0
  have f0 := q2.frozen 0
  have hz2 := (q2.set 0 (.slice none 0 0)).cell 0
  simp only [List.set_cons_zero, List.getElem?_cons_zero] at z0 hz2
  have HF := Lib.hid (show Below w.heap.size w (w'.setCell ⟨w.heap.size + 1 + 1, 0, none⟩ (.slice none 0 0)) from (bel.trans (bl.mono bel.size)).setCell (by show w.heap.size ≤ w.heap.size + 1 + 1; omega) _)
  go_wp2_with fail
  exact bodyPost_ret (v := .tuple #[.slice none 0 0, .int .i64 1]) (by simp [results, Try.results5, go_sem, hz2]) rfl ⟨rfl, HF.out⟩
theorem drop_unk (p : Option Addr) (a b k : Int) (w : World) (h : Unk w p) :
    Calls Try.prog 7 #[.pointer p, .int .i64 a, .int .i64 b, .int .i64 k] w fun e w' => e = .returned (.int .i64 1) ∧ Below w.heap.size w w' := by
  have ht := take_unk p a b k w h
  clear h
  go_enter Try.func7, Try.ntmps7
  go_wp2_with ((with_reducible refine ht.mono ?_); rintro _ w5 ⟨rfl, hs⟩)
  go_ret
  exact ⟨rfl, hs⟩
theorem double_unk (p : Option Addr) (a b k : Int) (w : World) (h : Unk w p) :
    Calls Try.prog 8 #[.pointer p, .int .i64 a, .int .i64 b, .int .i64 k] w fun e w' => e = .returned (.int .i64 1) ∧ Below w.heap.size w w' := by
  have H := Lib.hid h
  clear h
  go_enter Try.func8, Try.ntmps8
  go_wp2_with fail
  obtain ⟨W, hW, b1, b2, bel, hsz⟩ := new2 w [.pointer p] [.int .i64 a, .int .i64 b] 22 48
  rw [← hW]
  clear hW
  refine (with_unk p a b k _ W (H.out.below bel)).mono ?_
  rintro e w' ⟨rfl, bl⟩
  have HF := Lib.hid (bel.trans (bl.mono bel.size))
  go_wp2_with fail
  go_ret
  exact ⟨rfl, HF.out⟩
theorem wait_unk (p : Option Addr) (a b : Int) (w : World) (h : Unk w p) :
    Calls Try.prog 9 #[.pointer p, .int .i64 a, .int .i64 b] w fun e w' => e = .returned (.int .i64 0) ∧ w = w' := by
  rcases h with rfl | ⟨N, rfl, _, h3⟩
  · exact Waiting_nil a b w
  · exact Waiting_zero N a b w h3
theorem links_unk (p : Option Addr) (w : World) (h : Unk w p) :
    Calls Try.prog 10 #[.pointer p] w fun e w' => e = .returned (.slice none 0 0) ∧ w = w' := by
  have kn := known_unk p w h
  clear h
  go_enter Try.func10, Try.ntmps10
  go_wp2_with ((with_reducible refine kn.mono ?_); rintro _ w1 ⟨rfl, rfl⟩)
  go_ret
  exact ⟨rfl, rfl⟩
set_option maxHeartbeats 2000000 in
theorem NetNil_any (a b k : Int) (w : World) :
    Calls Try.prog 3 #[.int .i64 a, .int .i64 b, .int .i64 k] w fun e w' => e = .returned (.bool true) ∧ Below w.heap.size w w' := by
  go_enter Try.func3, Try.ntmps3
  go_wp2_with fail
  obtain ⟨W, hW, b1, b2, bel, hsz⟩ := new2 w [.map none] [.pointer none, .pointer (some ⟨w.heap.size, 0, none⟩)] 27 22
  rw [← hW]
  clear hW
  have B1 := Lib.hid b1
  have B2 := Lib.hid b2
  clear b1 b2
  go_loopw [8] (fun i wr => ∃ j : Nat, j ≤ 2 ∧ i = .int .i64 j ∧ Below W.heap.size W wr) (fun i _ => 2 - (intOf i).toNat)
  case atStart => exact ⟨0, by omega, rfl, Below.refl _ _⟩
  case round =>
    obtain ⟨j, hj, rfl, hr⟩ := hrel
    have r2 := B2.out.below hr B2.out.lt
    have r1 := B1.out.below hr B1.out.lt
    by_cases hlt : j < 2
    · obtain ⟨p, hp, hu⟩ : ∃ p, wr.cell? ⟨w.heap.size + 1, j, none⟩ = some (.pointer p) ∧ Unk wr p := by
        have hc := r2.cell j
        rcases (show j = 0 ∨ j = 1 by omega) with rfl | rfl
        · exact ⟨_, hc, .inl rfl⟩
        · exact ⟨_, hc, .inr ⟨_, rfl, r1.lt, r1.cell 0⟩⟩
      clear r1
      have HU := Lib.hid hu
      have HR := Lib.hid r2
      clear hu r2
      go_wp2_with fail
      refine (take_unk p a b k wr HU.out).mono ?_
      rintro _ w2 ⟨rfl, d2⟩
      have hp2 : w2.cell? ⟨w.heap.size + 1, j, none⟩ = some (.pointer p) := (World.cell?_of_block (d2.block _ HR.out.lt)).trans hp
      have u2 := HU.out.below d2
      have r3 := HR.out.below d2 HR.out.lt
      have U2 := Lib.hid u2
      have R3 := Lib.hid r3
      clear u2 r3
      go_wp2_with fail
      refine (send_unk p a b _ _ _ w2 U2.out).mono ?_
      rintro _ w3 ⟨rfl, d3⟩
      have hp3 : w3.cell? ⟨w.heap.size + 1, j, none⟩ = some (.pointer p) := (World.cell?_of_block (d3.block _ R3.out.lt)).trans hp2
      have U3 := Lib.hid (U2.out.below d3)
      have R4 := Lib.hid (R3.out.below d3 R3.out.lt)
      go_wp2_with fail
      refine (drop_unk p a b k w3 U3.out).mono ?_
      rintro _ w4 ⟨rfl, d4⟩
      have hp4 : w4.cell? ⟨w.heap.size + 1, j, none⟩ = some (.pointer p) := (World.cell?_of_block (d4.block _ R4.out.lt)).trans hp3
      have U4 := Lib.hid (U3.out.below d4)
      have R5 := Lib.hid (R4.out.below d4 R4.out.lt)
      go_wp2_with fail
      refine (double_unk p a b k w4 U4.out).mono ?_
      rintro _ w5 ⟨rfl, d5⟩
      have hp5 : w5.cell? ⟨w.heap.size + 1, j, none⟩ = some (.pointer p) := (World.cell?_of_block (d5.block _ R5.out.lt)).trans hp4
      have U5 := Lib.hid (U4.out.below d5)
      have kw := wait_unk p a b w5 U5.out
      have kl := links_unk p w5 U5.out
      go_wp2_with fail
      refine kw.mono ?_
      rintro _ w6 ⟨rfl, rfl⟩
      go_wp2_with fail
      refine kl.mono ?_
      rintro _ w6 ⟨rfl, rfl⟩
      go_wp2_with fail
      go_roundw
      case rel => exact ⟨j + 1, by omega, by go_num, (((hr.trans (d2.mono hr.size)).trans (d3.mono (Nat.le_trans hr.size d2.size))).trans (d4.mono (Nat.le_trans hr.size (Nat.le_trans d2.size d3.size)))).trans (d5.mono (Nat.le_trans hr.size (Nat.le_trans d2.size (Nat.le_trans d3.size d4.size))))⟩
      case measure => simp [intOf]; omega
    · go_wp2_with fail
      refine (awake_any wr).mono ?_
      rintro _ w2 ⟨rfl, d2⟩
      go_wp2_with fail
      go_ret
      exact ⟨rfl, (bel.trans (hr.mono bel.size)).trans (d2.mono (Nat.le_trans bel.size hr.size))⟩
end Go.Proofs.Ytenkhbiikecegaa
