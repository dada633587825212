/- text, the document's walk: a line's instruction. -/
import Derived.Deep.CutBlock
import Derived.StillTailTactics
import Derived.Test.YtjebjninlejoeaaGreatDoorZL
namespace Go.Proofs.YtjebjninlejoeaaGreatDoor
open Go.RowKit Go.Maps Go.ChangeMaps
set_option linter.unusedVariables false
set_option linter.unusedSimpArgs false
set_option linter.unusedSectionVars false
set_option maxRecDepth 100000

/-- What the document's instruction of a line tells. -/
def InstR (X : Nat) (K : Nat → Prop) (l : List Nm) (w : World) (x : Ending) (w' : World) : Prop :=
  ∃ (v : IV × Nm) (a' : Nat) (b' : Bool), x = .returned (.tuple #[.agg (ivV v.1).toArray, .string ⟨v.2.toArray⟩]) ∧ RL w' X K l a' b' ∧ Ag (fun g => g ≠ X) w w' ∧ (b' = false → instP l = some v) ∧ (b' = true → instP l = none)
def InT (l : List Nm) (v : IV × Nm) (a' : Nat) (b' : Bool) : Prop := ((b' || decide (a' ≠ l.length)) = false → instP l = some v) ∧ ((b' || decide (a' ≠ l.length)) = true → instP l = none)
section
variable {w : World} {X I : Nat} {K : Nat → Prop} {l : List Nm} {a : Nat} {b : Bool} {i : IV} (h : RS w X I K l a b i)
include h
theorem RS.toDst (n : Int) : w.cell? ⟨I, 2, none⟩ = some (.int .i64 i.dst) ∧ w.frozen? ⟨I, 2, none⟩ = false ∧ Hid (RS (w.setCell ⟨I, 2, none⟩ (.int .i64 n)) X I K l a b { i with dst := n }) ∧ Hid (Ag (FrI X I) w (w.setCell ⟨I, 2, none⟩ (.int .i64 n))) := by
  obtain ⟨h1, h2⟩ := h.put (i' := { i with dst := n }) 2 (.int .i64 n) rfl
  exact ⟨h.bk.cell 2, h.bk.frozen 2, Lib.hid h1, Lib.hid h2⟩
theorem RS.toSrc (n : Int) : w.cell? ⟨I, 3, none⟩ = some (.int .i64 i.src) ∧ w.frozen? ⟨I, 3, none⟩ = false ∧ Hid (RS (w.setCell ⟨I, 3, none⟩ (.int .i64 n)) X I K l a b { i with src := n }) ∧ Hid (Ag (FrI X I) w (w.setCell ⟨I, 3, none⟩ (.int .i64 n))) := by
  obtain ⟨h1, h2⟩ := h.put (i' := { i with src := n }) 3 (.int .i64 n) rfl
  exact ⟨h.bk.cell 3, h.bk.frozen 3, Lib.hid h1, Lib.hid h2⟩
theorem RS.toOp (n : Int) : w.cell? ⟨I, 0, none⟩ = some (.int .u8 i.op) ∧ w.frozen? ⟨I, 0, none⟩ = false ∧ Hid (RS (w.setCell ⟨I, 0, none⟩ (.int .u8 n)) X I K l a b { i with op := n }) ∧ Hid (Ag (FrI X I) w (w.setCell ⟨I, 0, none⟩ (.int .u8 n))) := by
  obtain ⟨h1, h2⟩ := h.put (i' := { i with op := n }) 0 (.int .u8 n) rfl
  exact ⟨h.bk.cell 0, h.bk.frozen 0, Lib.hid h1, Lib.hid h2⟩
theorem RS.toSize (n : Int) : w.cell? ⟨I, 7, none⟩ = some (.int .i64 i.size) ∧ w.frozen? ⟨I, 7, none⟩ = false ∧ Hid (RS (w.setCell ⟨I, 7, none⟩ (.int .i64 n)) X I K l a b { i with size := n }) ∧ Hid (Ag (FrI X I) w (w.setCell ⟨I, 7, none⟩ (.int .i64 n))) := by
  obtain ⟨h1, h2⟩ := h.put (i' := { i with size := n }) 7 (.int .i64 n) rfl
  exact ⟨h.bk.cell 7, h.bk.frozen 7, Lib.hid h1, Lib.hid h2⟩
end
theorem Ag.out_of {X I : Nat} {w W : World} (h : Ag (FrI X I) w W) (hI : w.heap.size ≤ I) : Ag (fun g => g ≠ X) w W := ⟨h.os, h.tape, h.output, h.size, fun k hk q => h.block k hk ⟨q, by omega⟩⟩
/-- The document's instruction under way: its result's block, and what has not been turned. -/
structure InS (w : World) (X I : Nat) (W : World) : Prop where
  ag : Ag (FrI X I) w W
  b2 : Bk W w.heap.size 40 [.int .u8 0, .bool false, .int .i64 0, .int .i64 0, .bool false, .int .i64 0, .int .i64 0, .int .i64 0]
  hx : X < w.heap.size
  hi : w.heap.size < I
theorem InS.step {w : World} {X I : Nat} {W W' : World} (h : InS w X I W) (ha : Ag (FrI X I) W W') : InS w X I W' :=
  ⟨h.ag.trans ha, (ha.block _ h.b2.lt ⟨by have := h.hx; omega, by have := h.hi; omega⟩).trans h.b2, h.hx, h.hi⟩
def set8 (W : World) (B : Nat) (o1 : Int) (o2 : Bool) (o3 o4 : Int) (o5 : Bool) (o6 o7 o8 : Int) : World :=
  (((((((W.setCell ⟨B, 0, none⟩ (.int .u8 o1)).setCell ⟨B, 1, none⟩ (.bool o2)).setCell ⟨B, 2, none⟩ (.int .i64 o3)).setCell ⟨B, 3, none⟩ (.int .i64 o4)).setCell ⟨B, 4, none⟩ (.bool o5)).setCell ⟨B, 5, none⟩ (.int .i64 o6)).setCell ⟨B, 6, none⟩ (.int .i64 o7)).setCell ⟨B, 7, none⟩ (.int .i64 o8)
theorem set8_ag (W : World) (B : Nat) (o1 : Int) (o2 : Bool) (o3 o4 : Int) (o5 : Bool) (o6 o7 o8 : Int) : Ag (fun g => g ≠ B) W (set8 W B o1 o2 o3 o4 o5 o6 o7 o8) :=
  ((((((((Ag.refl _ W).setCell (fun _ q => q rfl) _).setCell (fun _ q => q rfl) _).setCell (fun _ q => q rfl) _).setCell (fun _ q => q rfl) _).setCell (fun _ q => q rfl) _).setCell (fun _ q => q rfl) _).setCell (fun _ q => q rfl) _).setCell (fun _ q => q rfl) _
theorem set8_bk {W : World} {B : Nat} {t : TypeId} {c0 c1 c2 c3 c4 c5 c6 c7 : Value} (h : Bk W B t [c0, c1, c2, c3, c4, c5, c6, c7]) (o1 : Int) (o2 : Bool) (o3 o4 : Int) (o5 : Bool) (o6 o7 o8 : Int) : Bk (set8 W B o1 o2 o3 o4 o5 o6 o7 o8) B t [.int .u8 o1, .bool o2, .int .i64 o3, .int .i64 o4, .bool o5, .int .i64 o6, .int .i64 o7, .int .i64 o8] :=
  (((((((h.set 0 (.int .u8 o1)).set 1 (.bool o2)).set 2 (.int .i64 o3)).set 3 (.int .i64 o4)).set 4 (.bool o5)).set 5 (.int .i64 o6)).set 6 (.int .i64 o7)).set 7 (.int .i64 o8)
theorem inst_end {w W : World} {X I : Nat} {K : Nat → Prop} {l : List Nm} {a' : Nat} {b' : Bool} {i : IV} (hs : InS w X I W) (hr : RS W X I K l a' b' i) (hK : ∀ g, K g → g < w.heap.size) (o1 : Int) (o2 : Bool) (o3 o4 : Int) (o5 : Bool) (o6 o7 o8 : Int) :
    RL (set8 W w.heap.size o1 o2 o3 o4 o5 o6 o7 o8) X K l a' b' ∧ Ag (fun g => g ≠ X) w (set8 W w.heap.size o1 o2 o3 o4 o5 o6 o7 o8) := by
  have h8 := set8_ag W w.heap.size o1 o2 o3 o4 o5 o6 o7 o8
  refine ⟨hr.rl.keep fun g hg hor => h8.block g hg ?_, ⟨h8.os.trans hs.ag.os, h8.tape.trans hs.ag.tape, h8.output.trans hs.ag.output, Nat.le_trans hs.ag.size h8.size, fun g hg hne => ?_⟩⟩
  · rcases hor with rfl | hor
    · exact Nat.ne_of_lt hs.hx
    · exact Nat.ne_of_lt (hK g hor)
  · exact (h8.block g (Nat.lt_of_lt_of_le hg hs.ag.size) (Nat.ne_of_lt hg)).trans (hs.ag.block g hg ⟨hne, by have := hs.hi; omega⟩)
theorem leave_inst (B : Nat) (o1 : Int) (o2 : Bool) (o3 o4 : Int) (o5 : Bool) (o6 o7 o8 : Int) (lb : Value) (tmps : Array Value) (W : World) (hB : Bk W B 40 [.int .u8 o1, .bool o2, .int .i64 o3, .int .i64 o4, .bool o5, .int .i64 o6, .int .i64 o7, .int .i64 o8]) (h2 : tmps.getD 2 undef = .pointer (some ⟨B, 0, none⟩)) (h3 : tmps.getD 3 undef = lb) :
    (results Tryz.f75 tmps).run Tryz.prog W = .ok (.tuple #[.agg #[.int .u8 o1, .bool o2, .int .i64 o3, .int .i64 o4, .bool o5, .int .i64 o6, .int .i64 o7, .int .i64 o8], lb]) W := by
  have c0 := hB.cell 0
  have c1 := hB.cell 1
  have c2 := hB.cell 2
  have c3 := hB.cell 3
  have c4 := hB.cell 4
  have c5 := hB.cell 5
  have c6 := hB.cell 6
  have c7 := hB.cell 7
  simp only [List.getElem?_cons_zero, List.getElem?_cons_succ] at c0 c1 c2 c3 c4 c5 c6 c7
  have h2' : tmps[2]?.getD undef = .pointer (some ⟨B, 0, none⟩) := by simpa using h2
  have h3' : tmps[3]?.getD undef = lb := by simpa using h3
  simp [results, Tryz.results75, go_sem, h2', h3', c0, c1, c2, c3, c4, c5, c6, c7]
set_option maxHeartbeats 8000000 in
theorem rinst_any {w : World} {X : Nat} {K : Nat → Prop} {l : List Nm} (h : RL w X K l 0 false) (hK : ∀ g, K g → g < w.heap.size) {s0 : Nm} {t : List Nm} (hl : l = s0 :: t) : Calls Tryz.prog 75 #[.pointer (some ⟨X, 0, none⟩)] w fun x w' => InstR X K l w x w' := by
  have hX := h.lt
  have h0 := h.below ((Below.refl _ w).alloc (Nat.le_refl _) (.cells #[.int .u8 0, .bool false, .int .i64 0, .int .i64 0, .bool false, .int .i64 0, .int .i64 0, .int .i64 0] 40))
  have htake := rtake_any h0 (by omega)
  have hn0 : nxT l 0 = s0 := by rw [hl]; rfl
  rw [hn0] at htake
  have HB2 := Lib.hid (Bk.new w 40 [.int .u8 0, .bool false, .int .i64 0, .int .i64 0, .bool false, .int .i64 0, .int .i64 0, .int .i64 0])
  have HL := Lib.hid hl
  have HK := Lib.hid hK
  have HX := Lib.hid hX
  clear hn0 hl hK h h0 hX
  go_enter Tryz.func75, Tryz.ntmps75
  go_wp2_with fail
  (with_reducible refine htake.mono ?_)
  rintro _ w1 ⟨rfl, h1, a1⟩
  have H1 := Lib.hid h1
  have HB2 := Lib.hid ((a1.block w.heap.size (by simp) (by have := HX.out; omega)).trans HB2.out)
  have A1 := Lib.hid (show Ag (fun g => g ≠ X) w w1 from (Ag.of_below _ ((Below.refl _ w).alloc (Nat.le_refl _) _)).trans a1)
  have HZ1 := Lib.hid (show w.heap.size + 1 ≤ w1.heap.size by have := a1.size; simpa using this)
  clear htake h1 a1
  have HB2 : Hid (Bk w1 w.heap.size 40 [.int .u8 0, .bool false, .int .i64 0, .int .i64 0, .bool false, .int .i64 0, .int .i64 0, .int .i64 0]) := HB2
  have hal := (Below.refl w1.heap.size w1).alloc (Nat.le_refl _) (.cells #[.int .u8 0, .bool false, .int .i64 0, .int .i64 0, .bool false, .int .i64 0, .int .i64 0, .int .i64 0] 40)
  have HS := Lib.hid (show RS (w1.alloc (.cells #[.int .u8 0, .bool false, .int .i64 0, .int .i64 0, .bool false, .int .i64 0, .int .i64 0, .int .i64 0] 40)) X w1.heap.size K l 1 false (iv0 0) from ⟨H1.out.below hal, Bk.new w1 40 [.int .u8 0, .bool false, .int .i64 0, .int .i64 0, .bool false, .int .i64 0, .int .i64 0, .int .i64 0], by have := HX.out; have := HZ1.out; omega, fun q => by have := HK.out _ q; have := HZ1.out; omega⟩)
  have HB2 := Lib.hid (HB2.out.below hal HB2.out.lt)
  have A1 := Lib.hid (A1.out.trans (Ag.of_below _ hal))
  have HI := Lib.hid (show w.heap.size < w1.heap.size by have := HZ1.out; omega)
  cases hop : opR s0 with
  | mk k nr =>
  have hcop := fun W => rop_any s0 W
  rw [hop] at hcop
  have HOP := Lib.hid hop
  clear hal H1 HZ1 hop
  go_wp2_with fail
  generalize (w1.alloc (.cells #[.int .u8 0, .bool false, .int .i64 0, .int .i64 0, .bool false, .int .i64 0, .int .i64 0, .int .i64 0] 40)) = w2 at *
  generalize w1.heap.size = I at *
  (with_reducible refine (hcop w2).mono ?_)
  rintro _ w3 ⟨rfl, b3⟩
  have h3 := HS.out.below b3
  obtain ⟨h4, a4⟩ := h3.put (i' := iv0 k) 0 (.int .u8 k) rfl
  obtain ⟨h5, a5⟩ := h4.put (i' := { iv0 k with narrow := nr }) 1 (.bool nr) rfl
  have k0 := h3.bk.cell 0
  have k1 := h3.bk.cell 1
  have z0 := h3.bk.frozen 0
  have z1 := h3.bk.frozen 1
  simp only [ivV, iv0, List.getElem?_cons_zero, List.getElem?_cons_succ] at k0 k1
  have H5 := Lib.hid h5
  have hne : w.heap.size ≠ I := by have := HI.out; omega
  have HB5 := Lib.hid (show Bk ((w3.setCell ⟨I, 0, none⟩ (.int .u8 k)).setCell ⟨I, 1, none⟩ (.bool nr)) w.heap.size 40 [.int .u8 0, .bool false, .int .i64 0, .int .i64 0, .bool false, .int .i64 0, .int .i64 0, .int .i64 0] from (Below.heap_setCell _ _ _ _ hne).trans ((Below.heap_setCell _ _ _ _ hne).trans (HB2.out.below b3 HB2.out.lt)))
  have HT := Lib.hid (show InS w X I ((w3.setCell ⟨I, 0, none⟩ (.int .u8 k)).setCell ⟨I, 1, none⟩ (.bool nr)) from ⟨(A1.out.mono (fun _ _ q => q.1)).trans ((Ag.of_below _ b3).trans (a4.trans a5)), HB5.out, HX.out, HI.out⟩)
  have H := H5
  clear h3 h4 h5 a4 a5 b3 hcop HS HB2 HB5 H5 hne A1
  go_upto_block 0 with fail
  clear k0 k1 z0 z1
  go_cut [6] (fun lbv wx => ∃ (v : IV × Nm) (a' : Nat) (b' : Bool), lbv = .string ⟨v.2.toArray⟩ ∧ Hid (RS wx X I K l a' b' v.1) ∧ Hid (a' ≤ 20) ∧ Hid (InS w X I wx) ∧ Hid (InT l v a' b'))
  case first =>
    generalize ((w3.setCell ⟨I, 0, none⟩ (.int .u8 k)).setCell ⟨I, 1, none⟩ (.bool nr)) = ws at *
    have k0 := H.out.bk.cell 0
    have k7 := H.out.bk.cell 7
    have z0 := H.out.bk.frozen 0
    have z7 := H.out.bk.frozen 7
    simp only [ivV, iv0, List.getElem?_cons_zero, List.getElem?_cons_succ] at k0 k7
    by_cases hk : k = 0
    · obtain ⟨hnr, hno⟩ := opR_zero HOP.out hk
      subst hk hnr
      have HNO := Lib.hid hno
      clear hno
      have hz1 := rsized_any s0 loadW (by decide)
      unfold loadW at hz1
      by_cases hl0 : 0 < sizedR s0 loadW
      · have HW := Lib.hid (way_loadR (s := s0) rfl (show sizedR s0 loadW ≠ 0 by omega))
        unfold loadW at hl0 HW
        generalize sizedR s0 [108, 111, 97, 100] = z at *
        have dz : decide ((0 : Int) < z) = true := decide_eq_true hl0
        go_wp2_with fail
        (with_reducible refine (hz1 _).mono ?_)
        rintro _ wx ⟨rfl, rfl⟩
        obtain ⟨k0, z0, H, ty⟩ := H.out.toOp 14
        have HT := Lib.hid (HT.out.step ty.out)
        clear ty
        go_wp2_with fail
        (with_reducible refine (hz1 _).mono ?_)
        rintro _ wx ⟨rfl, rfl⟩
        obtain ⟨k7, z7, H, ty⟩ := H.out.toSize z
        have HT := Lib.hid (HT.out.step ty.out)
        clear ty hz1
        have hr := rregm_any H.out.rl (by omega)
        unfold iV at hr
        go_wp2_with fail
        (with_reducible refine hr.mono ?_)
        rintro _ wx ⟨n, a1, b1, rfl, ha1, rx, fx, gx⟩
        obtain ⟨sx, tx⟩ := H.out.lined rx gx
        obtain ⟨kx, zx, H, ty⟩ := sx.toDst n
        have HT := Lib.hid (HT.out.step (tx.trans ty.out))
        have F1 := Lib.hid fx
        clear hr rx fx gx sx tx ty
        clear k0 z0 k7 z7
        have hr := rmust_any H.out.rl (by omega) [44] (by simp)
        go_wp2_with fail
        (with_reducible refine hr.mono ?_)
        rintro _ wx ⟨_, a2, b2, rfl, ha2, rx, fx, gx⟩
        obtain ⟨sx, tx⟩ := H.out.lined rx gx
        have H := Lib.hid sx
        have HT := Lib.hid (HT.out.step tx)
        have F2 := Lib.hid fx
        clear hr rx fx gx sx tx
        have hr := rcell_any H.out (by omega)
        go_wp2_with fail
        (with_reducible refine hr.mono ?_)
        rintro _ wx ⟨v3, a3, b3, rfl, ha3, sx, fx, tx⟩
        have H := Lib.hid sx
        have HT := Lib.hid (HT.out.step tx)
        have F3 := Lib.hid fx
        clear hr sx fx tx
        obtain ⟨kx, zx, H, ty⟩ := H.out.toSrc v3.1
        have HT := Lib.hid (HT.out.step ty.out)
        clear ty
        go_wp2_with fail
        go_meet
        exact ⟨_, _, _, rfl, H, Lib.hid (by omega), HT, Lib.hid (rf_inst HL.out HW.out (rf_load F1.out F2.out F3.out))⟩
      · have hz0 : sizedR s0 loadW = 0 := by
          by_cases e : sizedR s0 loadW = 0
          · exact e
          · rcases sized_some (s := s0) (w := loadW) rfl e with ⟨_, q⟩ | ⟨_, q⟩ | ⟨_, q⟩ | ⟨_, q⟩ <;> omega
        have HZ0 := Lib.hid hz0
        unfold loadW at hl0 hz0
        rw [hz0] at hz1
        have hz2 := rsized_any s0 putW (by decide)
        unfold putW at hz2
        clear hl0 hz0
        by_cases hp0 : 0 < sizedR s0 putW
        · have HW := Lib.hid (way_putR (s := s0) rfl (show sizedR s0 putW ≠ 0 by omega))
          unfold putW at hp0 HW
          generalize sizedR s0 [112, 117, 116] = z at *
          have dz : decide ((0 : Int) < z) = true := decide_eq_true hp0
          go_wp2_with fail
          (with_reducible refine (hz1 _).mono ?_)
          rintro _ wx ⟨rfl, rfl⟩
          go_wp2_with fail
          (with_reducible refine (hz2 _).mono ?_)
          rintro _ wx ⟨rfl, rfl⟩
          obtain ⟨k0, z0, H, ty⟩ := H.out.toOp 15
          have HT := Lib.hid (HT.out.step ty.out)
          clear ty
          go_wp2_with fail
          (with_reducible refine (hz2 _).mono ?_)
          rintro _ wx ⟨rfl, rfl⟩
          obtain ⟨k7, z7, H, ty⟩ := H.out.toSize z
          have HT := Lib.hid (HT.out.step ty.out)
          clear ty hz1 hz2
          have hr := rcell_any H.out (by omega)
          go_wp2_with fail
          (with_reducible refine hr.mono ?_)
          rintro _ wx ⟨v1, a1, b1, rfl, ha1, sx, fx, tx⟩
          have H := Lib.hid sx
          have HT := Lib.hid (HT.out.step tx)
          have F1 := Lib.hid fx
          clear hr sx fx tx
          obtain ⟨kx, zx, H, ty⟩ := H.out.toDst v1.1
          have HT := Lib.hid (HT.out.step ty.out)
          clear ty k0 z0 k7 z7
          have hr := rmust_any H.out.rl (by omega) [44] (by simp)
          go_wp2_with fail
          (with_reducible refine hr.mono ?_)
          rintro _ wx ⟨_, a2, b2, rfl, ha2, rx, fx, gx⟩
          obtain ⟨sx, tx⟩ := H.out.lined rx gx
          have H := Lib.hid sx
          have HT := Lib.hid (HT.out.step tx)
          have F2 := Lib.hid fx
          clear hr rx fx gx sx tx
          have hr := rsecond_any H.out (by omega)
          go_wp2_with fail
          (with_reducible refine hr.mono ?_)
          rintro _ wx ⟨i3, a3, b3, rfl, ha3, sx, fx, tx⟩
          simp only [id] at sx
          have H := Lib.hid sx
          have HT := Lib.hid (HT.out.step tx)
          have F3 := Lib.hid fx
          clear hr sx fx tx
          go_wp2_with fail
          go_meet
          exact ⟨_, _, _, rfl, H, Lib.hid (by omega), HT, Lib.hid (rf_inst HL.out HW.out (rf_put F1.out F2.out F3.out))⟩
        · have hz0 : sizedR s0 putW = 0 := by
            by_cases e : sizedR s0 putW = 0
            · exact e
            · rcases sized_some (s := s0) (w := putW) rfl e with ⟨_, q⟩ | ⟨_, q⟩ | ⟨_, q⟩ | ⟨_, q⟩ <;> omega
          have HZ1 := Lib.hid hz0
          unfold putW at hp0 hz0
          rw [hz0] at hz2
          clear hp0 hz0
          by_cases hj : s0 = jumpW
          · have HW := Lib.hid (show wayP s0 = some (iv0 16, .far) by rw [hj]; exact way_jump)
            have hq : (s0 == [106, 117, 109, 112]) = true := by unfold jumpW at hj; simpa using hj
            clear hj
            go_wp2_with fail
            (with_reducible refine (hz1 _).mono ?_)
            rintro _ wx ⟨rfl, rfl⟩
            go_wp2_with fail
            (with_reducible refine (hz2 _).mono ?_)
            rintro _ wx ⟨rfl, rfl⟩
            obtain ⟨k0, z0, H, ty⟩ := H.out.toOp 16
            have HT := Lib.hid (HT.out.step ty.out)
            clear ty hz1 hz2
            have hr := rto_any H.out (by omega)
            go_wp2_with fail
            (with_reducible refine hr.mono ?_)
            rintro _ wx ⟨v1, a1, b1, rfl, ha1, sx, fx, tx⟩
            have H := Lib.hid sx
            have HT := Lib.hid (HT.out.step tx)
            have F1 := Lib.hid fx
            clear hr sx fx tx
            go_wp2_with fail
            go_meet
            exact ⟨_, _, _, rfl, H, Lib.hid (by omega), HT, Lib.hid (rf_inst HL.out HW.out (rf_far F1.out))⟩
          · have hq : (s0 == [106, 117, 109, 112]) = false := by unfold jumpW at hj; simpa using hj
            have HJ := Lib.hid hj
            clear hj
            by_cases he : s0 = exitW
            · have HW := Lib.hid (show wayP s0 = some (iv0 28, .exit) by rw [he]; exact way_exit)
              have hq2 : (s0 == [101, 120, 105, 116]) = true := by unfold exitW at he; simpa using he
              clear he
              go_wp2_with fail
              (with_reducible refine (hz1 _).mono ?_)
              rintro _ wx ⟨rfl, rfl⟩
              go_wp2_with fail
              (with_reducible refine (hz2 _).mono ?_)
              rintro _ wx ⟨rfl, rfl⟩
              obtain ⟨k0, z0, H, ty⟩ := H.out.toOp 28
              have HT := Lib.hid (HT.out.step ty.out)
              clear ty hz1 hz2
              go_wp2_with fail
              go_meet
              exact ⟨(iv0 28, []), _, _, rfl, H, Lib.hid (by omega), HT, Lib.hid (rf_inst HL.out HW.out (rf_exit (by rw [HL.out]; simp)))⟩
            · have hq2 : (s0 == [101, 120, 105, 116]) = false := by unfold exitW at he; simpa using he
              have HU := Lib.hid (inst_unknown HL.out (way_none HNO.out HZ0.out HZ1.out HJ.out he))
              clear he
              obtain ⟨c2, f2, H2, A2⟩ := H.out.rl.mark true
              obtain ⟨sx, tx⟩ := H.out.lined H2.out A2.out
              have H := Lib.hid sx
              have HT' := Lib.hid (HT.out.step tx)
              clear sx tx H2 A2
              go_wp2_with fail
              (with_reducible refine (hz1 _).mono ?_)
              rintro _ wx ⟨rfl, rfl⟩
              go_wp2_with fail
              (with_reducible refine (hz2 _).mono ?_)
              rintro _ wx ⟨rfl, rfl⟩
              clear hz1 hz2
              go_wp2_with fail
              go_meet
              exact ⟨(_, []), _, _, rfl, H, Lib.hid (by omega), HT', Lib.hid ⟨fun q => by simp at q, fun _ => HU.out⟩⟩
    · obtain ⟨hw, hkr⟩ := way_op HOP.out hk
      have HW := Lib.hid hw
      by_cases h13 : k = 13
      · subst h13
        rw [show kindOf 13 = .neg from rfl] at HW
        clear hw hk hkr
        have hr := rregm_any H.out.rl (by omega)
        unfold iV at hr
        go_wp2_with fail
        (with_reducible refine hr.mono ?_)
        rintro _ wx ⟨n, a1, b1, rfl, ha1, rx, fx, gx⟩
        obtain ⟨sx, tx⟩ := H.out.lined rx gx
        obtain ⟨kx, zx, H, ty⟩ := sx.toDst n
        have HT := Lib.hid (HT.out.step (tx.trans ty.out))
        have F1 := Lib.hid fx
        clear hr rx fx gx sx tx ty
        go_wp2_with fail
        go_meet
        exact ⟨_, _, _, rfl, H, Lib.hid (by omega), HT, Lib.hid (rf_inst HL.out HW.out (rf_neg F1.out))⟩
      · have d13 : (k == 13) = false := by simpa using h13
        by_cases h17 : 17 ≤ k
        · have d17 : decide ((17 : Int) ≤ k) = true := decide_eq_true h17
          rw [show kindOf k = .ask by unfold kindOf; rw [if_neg h13, if_pos h17]] at HW
          clear hw hk hkr
          have hr := rregm_any H.out.rl (by omega)
          unfold iV at hr
          go_wp2_with fail
          (with_reducible refine hr.mono ?_)
          rintro _ wx ⟨n, a1, b1, rfl, ha1, rx, fx, gx⟩
          obtain ⟨sx, tx⟩ := H.out.lined rx gx
          obtain ⟨kx, zx, H, ty⟩ := sx.toDst n
          have HT := Lib.hid (HT.out.step (tx.trans ty.out))
          have F1 := Lib.hid fx
          clear hr rx fx gx sx tx ty
          have hr := rmust_any H.out.rl (by omega) [44] (by simp)
          go_wp2_with fail
          (with_reducible refine hr.mono ?_)
          rintro _ wx ⟨_, a2, b2, rfl, ha2, rx, fx, gx⟩
          obtain ⟨sx, tx⟩ := H.out.lined rx gx
          have H := Lib.hid sx
          have HT := Lib.hid (HT.out.step tx)
          have F2 := Lib.hid fx
          clear hr rx fx gx sx tx
          have hr := rsecond_any H.out (by omega)
          go_wp2_with fail
          (with_reducible refine hr.mono ?_)
          rintro _ wx ⟨i3, a3, b3, rfl, ha3, sx, fx, tx⟩
          simp only [id] at sx
          have H := Lib.hid sx
          have HT := Lib.hid (HT.out.step tx)
          have F3 := Lib.hid fx
          clear hr sx fx tx
          have hr := rmust_any H.out.rl (by omega) [44] (by simp)
          go_wp2_with fail
          (with_reducible refine hr.mono ?_)
          rintro _ wx ⟨_, a4, b4, rfl, ha4, rx, fx, gx⟩
          obtain ⟨sx, tx⟩ := H.out.lined rx gx
          have H := Lib.hid sx
          have HT := Lib.hid (HT.out.step tx)
          have F4 := Lib.hid fx
          clear hr rx fx gx sx tx
          have hr := rto_any H.out (by omega)
          go_wp2_with fail
          (with_reducible refine hr.mono ?_)
          rintro _ wx ⟨v5, a5, b5, rfl, ha5, sx, fx, tx⟩
          have H := Lib.hid sx
          have HT := Lib.hid (HT.out.step tx)
          have F5 := Lib.hid fx
          clear hr sx fx tx
          go_wp2_with fail
          go_meet
          exact ⟨_, _, _, rfl, H, Lib.hid (by omega), HT, Lib.hid (rf_inst HL.out HW.out (rf_ask (rf_aluT F1.out F2.out F3.out) F4.out F5.out))⟩
        · have d17 : decide ((17 : Int) ≤ k) = false := decide_eq_false h17
          have dp : decide ((0 : Int) < k) = true := decide_eq_true (by omega)
          have qp : (0 : Int) < k := by omega
          rw [show kindOf k = .alu by unfold kindOf; rw [if_neg h13, if_neg h17]] at HW
          clear hw hk hkr
          have hr := rregm_any H.out.rl (by omega)
          unfold iV at hr
          go_wp2_with fail
          (with_reducible refine hr.mono ?_)
          rintro _ wx ⟨n, a1, b1, rfl, ha1, rx, fx, gx⟩
          obtain ⟨sx, tx⟩ := H.out.lined rx gx
          obtain ⟨kx, zx, H, ty⟩ := sx.toDst n
          have HT := Lib.hid (HT.out.step (tx.trans ty.out))
          have F1 := Lib.hid fx
          clear hr rx fx gx sx tx ty
          have hr := rmust_any H.out.rl (by omega) [44] (by simp)
          go_wp2_with fail
          (with_reducible refine hr.mono ?_)
          rintro _ wx ⟨_, a2, b2, rfl, ha2, rx, fx, gx⟩
          obtain ⟨sx, tx⟩ := H.out.lined rx gx
          have H := Lib.hid sx
          have HT := Lib.hid (HT.out.step tx)
          have F2 := Lib.hid fx
          clear hr rx fx gx sx tx
          have hr := rsecond_any H.out (by omega)
          go_wp2_with fail
          (with_reducible refine hr.mono ?_)
          rintro _ wx ⟨i3, a3, b3, rfl, ha3, sx, fx, tx⟩
          simp only [id] at sx
          have H := Lib.hid sx
          have HT := Lib.hid (HT.out.step tx)
          have F3 := Lib.hid fx
          clear hr sx fx tx
          go_wp2_with fail
          go_meet
          exact ⟨_, _, _, rfl, H, Lib.hid (by omega), HT, Lib.hid (rf_inst HL.out HW.out (rf_alu (rf_aluT F1.out F2.out F3.out)))⟩
  case rest =>
    obtain ⟨⟨⟨o1, o2, o3, o4, o5, o6, o7, o8⟩, lb⟩, a', b', rfl, H, HA, HT, HIN⟩ := hcut
    obtain ⟨c2, f2, H2, A2⟩ := H.out.rl.mark (b' || decide (a' ≠ l.length))
    obtain ⟨A, c, hb, -⟩ := H.out.rl.row
    have c0 := hb.cell 0
    have c1 := hb.cell 1
    simp only [List.getElem?_cons_zero, List.getElem?_cons_succ] at c0 c1
    clear hb
    have hS0 : wc.drew.cell? ⟨X, 0, none⟩ = some (.slice A l.length c) ∧ wc.drew.cell? ⟨X, 1, none⟩ = some (.int .i64 a') := ⟨c0, c1⟩
    cases b' with
    | true =>
      simp only [Bool.true_or] at H2 A2
      go_wp2_with fail
      refine wp_region_held_drew (S := fun w' => w'.cell? ⟨X, 0, none⟩ = some (.slice A l.length c) ∧ w'.cell? ⟨X, 1, none⟩ = some (.int .i64 a')) (by kernel_rfl) hS0 (fun hS => ?_)
      refine wpAnyH_norm 20 (Array.replicate 20 false) rfl rfl ?_
      refine wpAnyH_take (i := 0) (v := ?_) rfl (by kernel_rfl) (by kernel_rfl) (by kernel_rfl) (fun _ _ _ h => h) (Or.inl ⟨by rfl, ?_⟩) hS ?_
      rotate_left 1
      · intro w' hSw
        go_simp <;> with_reducible rfl
      try simp only [List.getElem_toArray, List.getElem_cons_zero, List.getElem_cons_succ, Act.put, List.setIfInBounds_toArray, List.set_cons_zero, List.set_cons_succ]
      refine wpAnyH_take (i := 1) (v := ?_) rfl (by kernel_rfl) (by kernel_rfl) (by kernel_rfl) (fun _ _ _ h => h) (Or.inl ⟨by rfl, ?_⟩) hS ?_
      rotate_left 1
      · intro w' hSw
        go_simp <;> with_reducible rfl
      try simp only [List.getElem_toArray, List.getElem_cons_zero, List.getElem_cons_succ, Act.put, List.setIfInBounds_toArray, List.set_cons_zero, List.set_cons_succ]
      refine wpAnyH_take (i := 2) (v := ?_) rfl (by kernel_rfl) (by kernel_rfl) (by kernel_rfl) (fun _ _ _ h => h) (Or.inl ⟨by rfl, ?_⟩) hS ?_
      rotate_left 1
      · intro w' hSw
        go_simp <;> with_reducible rfl
      try simp only [List.getElem_toArray, List.getElem_cons_zero, List.getElem_cons_succ, Act.put, List.setIfInBounds_toArray, List.set_cons_zero, List.set_cons_succ]
      refine wpAnyH_take (i := 3) (v := ?_) rfl (by kernel_rfl) (by kernel_rfl) (by kernel_rfl) (fun _ _ _ h => h) (Or.inl ⟨by rfl, ?_⟩) hS ?_
      rotate_left 1
      · intro w' hSw
        go_simp <;> with_reducible rfl
      try simp only [List.getElem_toArray, List.getElem_cons_zero, List.getElem_cons_succ, Act.put, List.setIfInBounds_toArray, List.set_cons_zero, List.set_cons_succ]
      refine wpAnyH_ready (rs := [4]) (by kernel_rfl) (by simp) (AllReadyH.cons rfl (fun K hK => ?_) AllReadyH.nil)
      go_simp
      refine hK _ _ hS (fun hS => ?_)
      clear hK K
      try simp only [List.getElem_toArray, List.getElem_cons_zero, List.getElem_cons_succ, Act.put, List.setIfInBounds_toArray, List.set_cons_zero, List.set_cons_succ]
      refine wpAnyH_take (i := 5) (v := ?_) rfl (by kernel_rfl) (by kernel_rfl) (by kernel_rfl) (fun _ _ _ h => h) (Or.inl ⟨by rfl, ?_⟩) hS ?_
      rotate_left 1
      · intro w' hSw
        go_simp <;> with_reducible rfl
      try simp only [List.getElem_toArray, List.getElem_cons_zero, List.getElem_cons_succ, Act.put, List.setIfInBounds_toArray, List.set_cons_zero, List.set_cons_succ]
      refine wpAnyH_take (i := 6) (v := undef) rfl (by kernel_rfl) (by kernel_rfl) (by kernel_rfl) (fun _ _ _ h => h) (Or.inr ⟨by go_simp, rfl⟩) hS ?_
      try simp only [List.getElem_toArray, List.getElem_cons_zero, List.getElem_cons_succ, Act.put, List.setIfInBounds_toArray, List.set_cons_zero, List.set_cons_succ]
      refine wpAnyH_take (i := 7) (v := undef) rfl (by kernel_rfl) (by kernel_rfl) (by kernel_rfl) (fun _ _ _ h => h) (Or.inr ⟨by go_simp, rfl⟩) hS ?_
      try simp only [List.getElem_toArray, List.getElem_cons_zero, List.getElem_cons_succ, Act.put, List.setIfInBounds_toArray, List.set_cons_zero, List.set_cons_succ]
      refine wpAnyH_take (i := 8) (v := undef) rfl (by kernel_rfl) (by kernel_rfl) (by kernel_rfl) (fun _ _ _ h => h) (Or.inr ⟨by go_simp, rfl⟩) hS ?_
      try simp only [List.getElem_toArray, List.getElem_cons_zero, List.getElem_cons_succ, Act.put, List.setIfInBounds_toArray, List.set_cons_zero, List.set_cons_succ]
      refine wpAnyH_take (i := 9) (v := undef) rfl (by kernel_rfl) (by kernel_rfl) (by kernel_rfl) (fun _ _ _ h => h) (Or.inr ⟨by go_simp, rfl⟩) hS ?_
      try simp only [List.getElem_toArray, List.getElem_cons_zero, List.getElem_cons_succ, Act.put, List.setIfInBounds_toArray, List.set_cons_zero, List.set_cons_succ]
      refine wpAnyH_take (i := 10) (v := undef) rfl (by kernel_rfl) (by kernel_rfl) (by kernel_rfl) (fun _ _ _ h => h) (Or.inr ⟨by go_simp, rfl⟩) hS ?_
      try simp only [List.getElem_toArray, List.getElem_cons_zero, List.getElem_cons_succ, Act.put, List.setIfInBounds_toArray, List.set_cons_zero, List.set_cons_succ]
      refine wpAnyH_take (i := 11) (v := undef) rfl (by kernel_rfl) (by kernel_rfl) (by kernel_rfl) (fun _ _ _ h => h) (Or.inr ⟨by go_simp, rfl⟩) hS ?_
      try simp only [List.getElem_toArray, List.getElem_cons_zero, List.getElem_cons_succ, Act.put, List.setIfInBounds_toArray, List.set_cons_zero, List.set_cons_succ]
      refine wpAnyH_take (i := 12) (v := undef) rfl (by kernel_rfl) (by kernel_rfl) (by kernel_rfl) (fun _ _ _ h => h) (Or.inr ⟨by go_simp, rfl⟩) hS ?_
      try simp only [List.getElem_toArray, List.getElem_cons_zero, List.getElem_cons_succ, Act.put, List.setIfInBounds_toArray, List.set_cons_zero, List.set_cons_succ]
      refine wpAnyH_take (i := 13) (v := undef) rfl (by kernel_rfl) (by kernel_rfl) (by kernel_rfl) (fun _ _ _ h => h) (Or.inr ⟨by go_simp, rfl⟩) hS ?_
      try simp only [List.getElem_toArray, List.getElem_cons_zero, List.getElem_cons_succ, Act.put, List.setIfInBounds_toArray, List.set_cons_zero, List.set_cons_succ]
      refine wpAnyH_take (i := 14) (v := undef) rfl (by kernel_rfl) (by kernel_rfl) (by kernel_rfl) (fun _ _ _ h => h) (Or.inr ⟨by go_simp, rfl⟩) hS ?_
      try simp only [List.getElem_toArray, List.getElem_cons_zero, List.getElem_cons_succ, Act.put, List.setIfInBounds_toArray, List.set_cons_zero, List.set_cons_succ]
      refine wpAnyH_take (i := 15) (v := undef) rfl (by kernel_rfl) (by kernel_rfl) (by kernel_rfl) (fun _ _ _ h => h) (Or.inr ⟨by go_simp, rfl⟩) hS ?_
      try simp only [List.getElem_toArray, List.getElem_cons_zero, List.getElem_cons_succ, Act.put, List.setIfInBounds_toArray, List.set_cons_zero, List.set_cons_succ]
      refine wpAnyH_take (i := 16) (v := ?_) rfl (by kernel_rfl) (by kernel_rfl) (by kernel_rfl) (fun _ _ _ h => h) (Or.inl ⟨by rfl, ?_⟩) hS ?_
      rotate_left 1
      · intro w' hSw
        go_simp <;> with_reducible rfl
      try simp only [List.getElem_toArray, List.getElem_cons_zero, List.getElem_cons_succ, Act.put, List.setIfInBounds_toArray, List.set_cons_zero, List.set_cons_succ]
      refine wpAnyH_take (i := 17) (v := ?_) rfl (by kernel_rfl) (by kernel_rfl) (by kernel_rfl) (fun _ _ _ h => h) (Or.inl ⟨by rfl, ?_⟩) hS ?_
      rotate_left 1
      · intro w' hSw
        go_simp <;> with_reducible rfl
      try simp only [List.getElem_toArray, List.getElem_cons_zero, List.getElem_cons_succ, Act.put, List.setIfInBounds_toArray, List.set_cons_zero, List.set_cons_succ]
      refine wpAnyH_take (i := 18) (v := ?_) rfl (by kernel_rfl) (by kernel_rfl) (by kernel_rfl) (fun _ _ _ h => h) (Or.inl ⟨by rfl, ?_⟩) hS ?_
      rotate_left 1
      · intro w' hSw
        go_simp <;> with_reducible rfl
      try simp only [List.getElem_toArray, List.getElem_cons_zero, List.getElem_cons_succ, Act.put, List.setIfInBounds_toArray, List.set_cons_zero, List.set_cons_succ]
      refine wpAnyH_ready (rs := [19]) (by kernel_rfl) (by simp) (AllReadyH.cons rfl (fun K hK => ?_) AllReadyH.nil)
      go_simp
      refine hK _ _ ⟨(World.cell?_setCell_other _ _ _ _ (by intro e; injection e with _ e; cases e)).trans hS.1, (World.cell?_setCell_other _ _ _ _ (by intro e; injection e with _ e; cases e)).trans hS.2⟩ (fun hS => ?_)
      clear hK K
      try simp only [List.getElem_toArray, List.getElem_cons_zero, List.getElem_cons_succ, Act.put, List.setIfInBounds_toArray, List.set_cons_zero, List.set_cons_succ]
      refine wpAnyH_done (by kernel_rfl) ?_ _
      obtain ⟨sx, tx⟩ := H.out.lined H2.out A2.out
      have H3 := Lib.hid (sx.below (Below.drew (Below.refl _ _)))
      have HT3 := Lib.hid ((HT.out.step tx).step (Ag.of_below _ (Below.drew (Below.refl _ _))))
      clear sx tx H2 A2 hS c0 c1 c2 f2
      generalize ((wc.setCell ⟨X, 2, none⟩ (.bool true)).drew) = wd at *
      have e0 := H3.out.bk.cell 0
      have e1 := H3.out.bk.cell 1
      have e2 := H3.out.bk.cell 2
      have e3 := H3.out.bk.cell 3
      have e4 := H3.out.bk.cell 4
      have e5 := H3.out.bk.cell 5
      have e6 := H3.out.bk.cell 6
      have e7 := H3.out.bk.cell 7
      have p0 := HT3.out.b2.cell 0
      have p1 := HT3.out.b2.cell 1
      have p2 := HT3.out.b2.cell 2
      have p3 := HT3.out.b2.cell 3
      have p4 := HT3.out.b2.cell 4
      have p5 := HT3.out.b2.cell 5
      have p6 := HT3.out.b2.cell 6
      have p7 := HT3.out.b2.cell 7
      have z0 := HT3.out.b2.frozen 0
      have z1 := HT3.out.b2.frozen 1
      have z2 := HT3.out.b2.frozen 2
      have z3 := HT3.out.b2.frozen 3
      have z4 := HT3.out.b2.frozen 4
      have z5 := HT3.out.b2.frozen 5
      have z6 := HT3.out.b2.frozen 6
      have z7 := HT3.out.b2.frozen 7
      simp only [ivV, List.getElem?_cons_zero, List.getElem?_cons_succ] at e0 e1 e2 e3 e4 e5 e6 e7 p0 p1 p2 p3 p4 p5 p6 p7
      go_wp2_with fail
      have HF := Lib.hid (inst_end HT3.out H3.out HK.out o1 o2 o3 o4 o5 o6 o7 o8)
      have HB := Lib.hid (set8_bk HT3.out.b2 o1 o2 o3 o4 o5 o6 o7 o8)
      refine bodyPost_ret (leave_inst w.heap.size o1 o2 o3 o4 o5 o6 o7 o8 (.string ⟨lb.toArray⟩) _ (set8 wd w.heap.size o1 o2 o3 o4 o5 o6 o7 o8) HB.out rfl rfl) rfl ?_
      exact ⟨(⟨o1, o2, o3, o4, o5, o6, o7, o8⟩, lb), a', true, rfl, HF.out.1, HF.out.2, (fun q => by cases q), fun _ => HIN.out.2 rfl⟩
    | false =>
      have dl : (a' : Int) = (l.length : Int) ∨ ¬ (a' : Int) = (l.length : Int) := Classical.em _
      simp only [Bool.false_or] at H2 A2
      rcases dl with dl | dl
      · have hdd : decide (a' ≠ l.length) = false := decide_eq_false (by omega)
        have HIN : Hid (InT l (⟨o1, o2, o3, o4, o5, o6, o7, o8⟩, lb) a' false ∧ decide (a' ≠ l.length) = false) := Lib.hid ⟨HIN.out, hdd⟩
        rw [hdd] at H2 A2
        clear hdd
        go_wp2_with fail
        refine wp_region_held_drew (S := fun w' => w'.cell? ⟨X, 0, none⟩ = some (.slice A l.length c) ∧ w'.cell? ⟨X, 1, none⟩ = some (.int .i64 a')) (by kernel_rfl) hS0 (fun hS => ?_)
        refine wpAnyH_norm 20 (Array.replicate 20 false) rfl rfl ?_
        refine wpAnyH_take (i := 0) (v := ?_) rfl (by kernel_rfl) (by kernel_rfl) (by kernel_rfl) (fun _ _ _ h => h) (Or.inl ⟨by rfl, ?_⟩) hS ?_
        rotate_left 1
        · intro w' hSw
          go_simp <;> with_reducible rfl
        try simp only [List.getElem_toArray, List.getElem_cons_zero, List.getElem_cons_succ, Act.put, List.setIfInBounds_toArray, List.set_cons_zero, List.set_cons_succ]
        refine wpAnyH_take (i := 1) (v := ?_) rfl (by kernel_rfl) (by kernel_rfl) (by kernel_rfl) (fun _ _ _ h => h) (Or.inl ⟨by rfl, ?_⟩) hS ?_
        rotate_left 1
        · intro w' hSw
          go_simp <;> with_reducible rfl
        try simp only [List.getElem_toArray, List.getElem_cons_zero, List.getElem_cons_succ, Act.put, List.setIfInBounds_toArray, List.set_cons_zero, List.set_cons_succ]
        refine wpAnyH_take (i := 2) (v := ?_) rfl (by kernel_rfl) (by kernel_rfl) (by kernel_rfl) (fun _ _ _ h => h) (Or.inl ⟨by rfl, ?_⟩) hS ?_
        rotate_left 1
        · intro w' hSw
          go_simp <;> with_reducible rfl
        try simp only [List.getElem_toArray, List.getElem_cons_zero, List.getElem_cons_succ, Act.put, List.setIfInBounds_toArray, List.set_cons_zero, List.set_cons_succ]
        refine wpAnyH_take (i := 3) (v := ?_) rfl (by kernel_rfl) (by kernel_rfl) (by kernel_rfl) (fun _ _ _ h => h) (Or.inl ⟨by rfl, ?_⟩) hS ?_
        rotate_left 1
        · intro w' hSw
          go_simp <;> with_reducible rfl
        try simp only [List.getElem_toArray, List.getElem_cons_zero, List.getElem_cons_succ, Act.put, List.setIfInBounds_toArray, List.set_cons_zero, List.set_cons_succ]
        refine wpAnyH_ready (rs := [4]) (by kernel_rfl) (by simp) (AllReadyH.cons rfl (fun K hK => ?_) AllReadyH.nil)
        go_simp
        refine hK _ _ hS (fun hS => ?_)
        clear hK K
        try simp only [List.getElem_toArray, List.getElem_cons_zero, List.getElem_cons_succ, Act.put, List.setIfInBounds_toArray, List.set_cons_zero, List.set_cons_succ]
        refine wpAnyH_take (i := 5) (v := ?_) rfl (by kernel_rfl) (by kernel_rfl) (by kernel_rfl) (fun _ _ _ h => h) (Or.inl ⟨by rfl, ?_⟩) hS ?_
        rotate_left 1
        · intro w' hSw
          go_simp <;> with_reducible rfl
        try simp only [List.getElem_toArray, List.getElem_cons_zero, List.getElem_cons_succ, Act.put, List.setIfInBounds_toArray, List.set_cons_zero, List.set_cons_succ]
        refine wpAnyH_take (i := 6) (v := ?_) rfl (by kernel_rfl) (by kernel_rfl) (by kernel_rfl) (fun _ _ _ h => h) (Or.inl ⟨by go_simp, ?_⟩) hS ?_
        rotate_left 1
        · intro w' hSw
          go_simp <;> with_reducible rfl
        try simp only [List.getElem_toArray, List.getElem_cons_zero, List.getElem_cons_succ, Act.put, List.setIfInBounds_toArray, List.set_cons_zero, List.set_cons_succ]
        refine wpAnyH_take (i := 7) (v := ?_) rfl (by kernel_rfl) (by kernel_rfl) (by kernel_rfl) (fun _ _ _ h => h) (Or.inl ⟨by go_simp, ?_⟩) hS ?_
        rotate_left 1
        · intro w' hSw
          go_simp <;> with_reducible rfl
        try simp only [List.getElem_toArray, List.getElem_cons_zero, List.getElem_cons_succ, Act.put, List.setIfInBounds_toArray, List.set_cons_zero, List.set_cons_succ]
        refine wpAnyH_take (i := 8) (v := ?_) rfl (by kernel_rfl) (by kernel_rfl) (by kernel_rfl) (fun _ _ _ h => h) (Or.inl ⟨by go_simp, ?_⟩) hS ?_
        rotate_left 1
        · intro w' hSw
          go_simp <;> with_reducible rfl
        try simp only [List.getElem_toArray, List.getElem_cons_zero, List.getElem_cons_succ, Act.put, List.setIfInBounds_toArray, List.set_cons_zero, List.set_cons_succ]
        refine wpAnyH_take (i := 9) (v := ?_) rfl (by kernel_rfl) (by kernel_rfl) (by kernel_rfl) (fun _ _ _ h => h) (Or.inl ⟨by go_simp, ?_⟩) hS ?_
        rotate_left 1
        · intro w' hSw
          go_simp <;> with_reducible rfl
        try simp only [List.getElem_toArray, List.getElem_cons_zero, List.getElem_cons_succ, Act.put, List.setIfInBounds_toArray, List.set_cons_zero, List.set_cons_succ]
        refine wpAnyH_take (i := 10) (v := ?_) rfl (by kernel_rfl) (by kernel_rfl) (by kernel_rfl) (fun _ _ _ h => h) (Or.inl ⟨by go_simp, ?_⟩) hS ?_
        rotate_left 1
        · intro w' hSw
          go_simp <;> with_reducible rfl
        try simp only [List.getElem_toArray, List.getElem_cons_zero, List.getElem_cons_succ, Act.put, List.setIfInBounds_toArray, List.set_cons_zero, List.set_cons_succ]
        refine wpAnyH_take (i := 11) (v := ?_) rfl (by kernel_rfl) (by kernel_rfl) (by kernel_rfl) (fun _ _ _ h => h) (Or.inl ⟨by go_simp, ?_⟩) hS ?_
        rotate_left 1
        · intro w' hSw
          go_simp <;> with_reducible rfl
        try simp only [List.getElem_toArray, List.getElem_cons_zero, List.getElem_cons_succ, Act.put, List.setIfInBounds_toArray, List.set_cons_zero, List.set_cons_succ]
        refine wpAnyH_take (i := 12) (v := ?_) rfl (by kernel_rfl) (by kernel_rfl) (by kernel_rfl) (fun _ _ _ h => h) (Or.inl ⟨by go_simp, ?_⟩) hS ?_
        rotate_left 1
        · intro w' hSw
          go_simp <;> with_reducible rfl
        try simp only [List.getElem_toArray, List.getElem_cons_zero, List.getElem_cons_succ, Act.put, List.setIfInBounds_toArray, List.set_cons_zero, List.set_cons_succ]
        refine wpAnyH_take (i := 13) (v := ?_) rfl (by kernel_rfl) (by kernel_rfl) (by kernel_rfl) (fun _ _ _ h => h) (Or.inl ⟨by go_simp, ?_⟩) hS ?_
        rotate_left 1
        · intro w' hSw
          go_simp <;> with_reducible rfl
        try simp only [List.getElem_toArray, List.getElem_cons_zero, List.getElem_cons_succ, Act.put, List.setIfInBounds_toArray, List.set_cons_zero, List.set_cons_succ]
        refine wpAnyH_take (i := 14) (v := ?_) rfl (by kernel_rfl) (by kernel_rfl) (by kernel_rfl) (fun _ _ _ h => h) (Or.inl ⟨by go_simp, ?_⟩) hS ?_
        rotate_left 1
        · intro w' hSw
          go_simp <;> with_reducible rfl
        try simp only [List.getElem_toArray, List.getElem_cons_zero, List.getElem_cons_succ, Act.put, List.setIfInBounds_toArray, List.set_cons_zero, List.set_cons_succ]
        refine wpAnyH_take (i := 15) (v := ?_) rfl (by kernel_rfl) (by kernel_rfl) (by kernel_rfl) (fun _ _ _ h => h) (Or.inl ⟨by go_simp, ?_⟩) hS ?_
        rotate_left 1
        · intro w' hSw
          go_simp <;> with_reducible rfl
        try simp only [List.getElem_toArray, List.getElem_cons_zero, List.getElem_cons_succ, Act.put, List.setIfInBounds_toArray, List.set_cons_zero, List.set_cons_succ]
        refine wpAnyH_take (i := 16) (v := ?_) rfl (by kernel_rfl) (by kernel_rfl) (by kernel_rfl) (fun _ _ _ h => h) (Or.inl ⟨by rfl, ?_⟩) hS ?_
        rotate_left 1
        · intro w' hSw
          go_simp <;> with_reducible rfl
        try simp only [List.getElem_toArray, List.getElem_cons_zero, List.getElem_cons_succ, Act.put, List.setIfInBounds_toArray, List.set_cons_zero, List.set_cons_succ]
        refine wpAnyH_take (i := 17) (v := ?_) rfl (by kernel_rfl) (by kernel_rfl) (by kernel_rfl) (fun _ _ _ h => h) (Or.inl ⟨by rfl, ?_⟩) hS ?_
        rotate_left 1
        · intro w' hSw
          go_simp <;> with_reducible rfl
        try simp only [List.getElem_toArray, List.getElem_cons_zero, List.getElem_cons_succ, Act.put, List.setIfInBounds_toArray, List.set_cons_zero, List.set_cons_succ]
        refine wpAnyH_take (i := 18) (v := ?_) rfl (by kernel_rfl) (by kernel_rfl) (by kernel_rfl) (fun _ _ _ h => h) (Or.inl ⟨by rfl, ?_⟩) hS ?_
        rotate_left 1
        · intro w' hSw
          go_simp <;> with_reducible rfl
        try simp only [List.getElem_toArray, List.getElem_cons_zero, List.getElem_cons_succ, Act.put, List.setIfInBounds_toArray, List.set_cons_zero, List.set_cons_succ]
        refine wpAnyH_ready (rs := [19]) (by kernel_rfl) (by simp) (AllReadyH.cons rfl (fun K hK => ?_) AllReadyH.nil)
        go_simp
        refine hK _ _ ⟨(World.cell?_setCell_other _ _ _ _ (by intro e; injection e with _ e; cases e)).trans hS.1, (World.cell?_setCell_other _ _ _ _ (by intro e; injection e with _ e; cases e)).trans hS.2⟩ (fun hS => ?_)
        clear hK K
        try simp only [List.getElem_toArray, List.getElem_cons_zero, List.getElem_cons_succ, Act.put, List.setIfInBounds_toArray, List.set_cons_zero, List.set_cons_succ]
        refine wpAnyH_done (by kernel_rfl) ?_ _
        obtain ⟨sx, tx⟩ := H.out.lined H2.out A2.out
        have H3 := Lib.hid (sx.below (Below.drew (Below.refl _ _)))
        have HT3 := Lib.hid ((HT.out.step tx).step (Ag.of_below _ (Below.drew (Below.refl _ _))))
        clear sx tx H2 A2 hS c0 c1 c2 f2
        generalize ((wc.setCell ⟨X, 2, none⟩ (.bool false)).drew) = wd at *
        have e0 := H3.out.bk.cell 0
        have e1 := H3.out.bk.cell 1
        have e2 := H3.out.bk.cell 2
        have e3 := H3.out.bk.cell 3
        have e4 := H3.out.bk.cell 4
        have e5 := H3.out.bk.cell 5
        have e6 := H3.out.bk.cell 6
        have e7 := H3.out.bk.cell 7
        have p0 := HT3.out.b2.cell 0
        have p1 := HT3.out.b2.cell 1
        have p2 := HT3.out.b2.cell 2
        have p3 := HT3.out.b2.cell 3
        have p4 := HT3.out.b2.cell 4
        have p5 := HT3.out.b2.cell 5
        have p6 := HT3.out.b2.cell 6
        have p7 := HT3.out.b2.cell 7
        have z0 := HT3.out.b2.frozen 0
        have z1 := HT3.out.b2.frozen 1
        have z2 := HT3.out.b2.frozen 2
        have z3 := HT3.out.b2.frozen 3
        have z4 := HT3.out.b2.frozen 4
        have z5 := HT3.out.b2.frozen 5
        have z6 := HT3.out.b2.frozen 6
        have z7 := HT3.out.b2.frozen 7
        simp only [ivV, List.getElem?_cons_zero, List.getElem?_cons_succ] at e0 e1 e2 e3 e4 e5 e6 e7 p0 p1 p2 p3 p4 p5 p6 p7
        go_wp2_with fail
        have HF := Lib.hid (inst_end HT3.out H3.out HK.out o1 o2 o3 o4 o5 o6 o7 o8)
        have HB := Lib.hid (set8_bk HT3.out.b2 o1 o2 o3 o4 o5 o6 o7 o8)
        refine bodyPost_ret (leave_inst w.heap.size o1 o2 o3 o4 o5 o6 o7 o8 (.string ⟨lb.toArray⟩) _ (set8 wd w.heap.size o1 o2 o3 o4 o5 o6 o7 o8) HB.out rfl rfl) rfl ?_
        exact ⟨(⟨o1, o2, o3, o4, o5, o6, o7, o8⟩, lb), a', false, rfl, HF.out.1, HF.out.2, fun _ => HIN.out.1.1 (by rw [HIN.out.2]; rfl), fun q => by cases q⟩
      · have hdd : decide (a' ≠ l.length) = true := decide_eq_true (by omega)
        have hbne : ((a' : Int) != (l.length : Int)) = true := by simpa using dl
        have HIN : Hid (InT l (⟨o1, o2, o3, o4, o5, o6, o7, o8⟩, lb) a' false ∧ decide (a' ≠ l.length) = true) := Lib.hid ⟨HIN.out, hdd⟩
        rw [hdd] at H2 A2
        clear hdd
        go_wp2_with fail
        refine wp_region_held_drew (S := fun w' => w'.cell? ⟨X, 0, none⟩ = some (.slice A l.length c) ∧ w'.cell? ⟨X, 1, none⟩ = some (.int .i64 a')) (by kernel_rfl) hS0 (fun hS => ?_)
        refine wpAnyH_norm 20 (Array.replicate 20 false) rfl rfl ?_
        refine wpAnyH_take (i := 0) (v := ?_) rfl (by kernel_rfl) (by kernel_rfl) (by kernel_rfl) (fun _ _ _ h => h) (Or.inl ⟨by rfl, ?_⟩) hS ?_
        rotate_left 1
        · intro w' hSw
          go_simp <;> with_reducible rfl
        try simp only [List.getElem_toArray, List.getElem_cons_zero, List.getElem_cons_succ, Act.put, List.setIfInBounds_toArray, List.set_cons_zero, List.set_cons_succ]
        refine wpAnyH_take (i := 1) (v := ?_) rfl (by kernel_rfl) (by kernel_rfl) (by kernel_rfl) (fun _ _ _ h => h) (Or.inl ⟨by rfl, ?_⟩) hS ?_
        rotate_left 1
        · intro w' hSw
          go_simp <;> with_reducible rfl
        try simp only [List.getElem_toArray, List.getElem_cons_zero, List.getElem_cons_succ, Act.put, List.setIfInBounds_toArray, List.set_cons_zero, List.set_cons_succ]
        refine wpAnyH_take (i := 2) (v := ?_) rfl (by kernel_rfl) (by kernel_rfl) (by kernel_rfl) (fun _ _ _ h => h) (Or.inl ⟨by rfl, ?_⟩) hS ?_
        rotate_left 1
        · intro w' hSw
          go_simp <;> with_reducible rfl
        try simp only [List.getElem_toArray, List.getElem_cons_zero, List.getElem_cons_succ, Act.put, List.setIfInBounds_toArray, List.set_cons_zero, List.set_cons_succ]
        refine wpAnyH_take (i := 3) (v := ?_) rfl (by kernel_rfl) (by kernel_rfl) (by kernel_rfl) (fun _ _ _ h => h) (Or.inl ⟨by rfl, ?_⟩) hS ?_
        rotate_left 1
        · intro w' hSw
          go_simp <;> with_reducible rfl
        try simp only [List.getElem_toArray, List.getElem_cons_zero, List.getElem_cons_succ, Act.put, List.setIfInBounds_toArray, List.set_cons_zero, List.set_cons_succ]
        refine wpAnyH_ready (rs := [4]) (by kernel_rfl) (by simp) (AllReadyH.cons rfl (fun K hK => ?_) AllReadyH.nil)
        go_simp
        refine hK _ _ hS (fun hS => ?_)
        clear hK K
        try simp only [List.getElem_toArray, List.getElem_cons_zero, List.getElem_cons_succ, Act.put, List.setIfInBounds_toArray, List.set_cons_zero, List.set_cons_succ]
        refine wpAnyH_take (i := 5) (v := ?_) rfl (by kernel_rfl) (by kernel_rfl) (by kernel_rfl) (fun _ _ _ h => h) (Or.inl ⟨by rfl, ?_⟩) hS ?_
        rotate_left 1
        · intro w' hSw
          go_simp <;> with_reducible rfl
        try simp only [List.getElem_toArray, List.getElem_cons_zero, List.getElem_cons_succ, Act.put, List.setIfInBounds_toArray, List.set_cons_zero, List.set_cons_succ]
        refine wpAnyH_take (i := 6) (v := ?_) rfl (by kernel_rfl) (by kernel_rfl) (by kernel_rfl) (fun _ _ _ h => h) (Or.inl ⟨by go_simp, ?_⟩) hS ?_
        rotate_left 1
        · intro w' hSw
          go_simp <;> with_reducible rfl
        try simp only [List.getElem_toArray, List.getElem_cons_zero, List.getElem_cons_succ, Act.put, List.setIfInBounds_toArray, List.set_cons_zero, List.set_cons_succ]
        refine wpAnyH_take (i := 7) (v := ?_) rfl (by kernel_rfl) (by kernel_rfl) (by kernel_rfl) (fun _ _ _ h => h) (Or.inl ⟨by go_simp, ?_⟩) hS ?_
        rotate_left 1
        · intro w' hSw
          go_simp <;> with_reducible rfl
        try simp only [List.getElem_toArray, List.getElem_cons_zero, List.getElem_cons_succ, Act.put, List.setIfInBounds_toArray, List.set_cons_zero, List.set_cons_succ]
        refine wpAnyH_take (i := 8) (v := ?_) rfl (by kernel_rfl) (by kernel_rfl) (by kernel_rfl) (fun _ _ _ h => h) (Or.inl ⟨by go_simp, ?_⟩) hS ?_
        rotate_left 1
        · intro w' hSw
          go_simp <;> with_reducible rfl
        try simp only [List.getElem_toArray, List.getElem_cons_zero, List.getElem_cons_succ, Act.put, List.setIfInBounds_toArray, List.set_cons_zero, List.set_cons_succ]
        refine wpAnyH_take (i := 9) (v := ?_) rfl (by kernel_rfl) (by kernel_rfl) (by kernel_rfl) (fun _ _ _ h => h) (Or.inl ⟨by go_simp, ?_⟩) hS ?_
        rotate_left 1
        · intro w' hSw
          go_simp <;> with_reducible rfl
        try simp only [List.getElem_toArray, List.getElem_cons_zero, List.getElem_cons_succ, Act.put, List.setIfInBounds_toArray, List.set_cons_zero, List.set_cons_succ]
        refine wpAnyH_take (i := 10) (v := ?_) rfl (by kernel_rfl) (by kernel_rfl) (by kernel_rfl) (fun _ _ _ h => h) (Or.inl ⟨by go_simp, ?_⟩) hS ?_
        rotate_left 1
        · intro w' hSw
          go_simp <;> with_reducible rfl
        try simp only [List.getElem_toArray, List.getElem_cons_zero, List.getElem_cons_succ, Act.put, List.setIfInBounds_toArray, List.set_cons_zero, List.set_cons_succ]
        refine wpAnyH_take (i := 11) (v := ?_) rfl (by kernel_rfl) (by kernel_rfl) (by kernel_rfl) (fun _ _ _ h => h) (Or.inl ⟨by go_simp, ?_⟩) hS ?_
        rotate_left 1
        · intro w' hSw
          go_simp <;> with_reducible rfl
        try simp only [List.getElem_toArray, List.getElem_cons_zero, List.getElem_cons_succ, Act.put, List.setIfInBounds_toArray, List.set_cons_zero, List.set_cons_succ]
        refine wpAnyH_take (i := 12) (v := ?_) rfl (by kernel_rfl) (by kernel_rfl) (by kernel_rfl) (fun _ _ _ h => h) (Or.inl ⟨by go_simp, ?_⟩) hS ?_
        rotate_left 1
        · intro w' hSw
          go_simp <;> with_reducible rfl
        try simp only [List.getElem_toArray, List.getElem_cons_zero, List.getElem_cons_succ, Act.put, List.setIfInBounds_toArray, List.set_cons_zero, List.set_cons_succ]
        refine wpAnyH_take (i := 13) (v := ?_) rfl (by kernel_rfl) (by kernel_rfl) (by kernel_rfl) (fun _ _ _ h => h) (Or.inl ⟨by go_simp, ?_⟩) hS ?_
        rotate_left 1
        · intro w' hSw
          go_simp <;> with_reducible rfl
        try simp only [List.getElem_toArray, List.getElem_cons_zero, List.getElem_cons_succ, Act.put, List.setIfInBounds_toArray, List.set_cons_zero, List.set_cons_succ]
        refine wpAnyH_take (i := 14) (v := ?_) rfl (by kernel_rfl) (by kernel_rfl) (by kernel_rfl) (fun _ _ _ h => h) (Or.inl ⟨by go_simp, ?_⟩) hS ?_
        rotate_left 1
        · intro w' hSw
          go_simp <;> with_reducible rfl
        try simp only [List.getElem_toArray, List.getElem_cons_zero, List.getElem_cons_succ, Act.put, List.setIfInBounds_toArray, List.set_cons_zero, List.set_cons_succ]
        refine wpAnyH_take (i := 15) (v := ?_) rfl (by kernel_rfl) (by kernel_rfl) (by kernel_rfl) (fun _ _ _ h => h) (Or.inl ⟨by go_simp, ?_⟩) hS ?_
        rotate_left 1
        · intro w' hSw
          go_simp <;> with_reducible rfl
        try simp only [List.getElem_toArray, List.getElem_cons_zero, List.getElem_cons_succ, Act.put, List.setIfInBounds_toArray, List.set_cons_zero, List.set_cons_succ]
        refine wpAnyH_take (i := 16) (v := ?_) rfl (by kernel_rfl) (by kernel_rfl) (by kernel_rfl) (fun _ _ _ h => h) (Or.inl ⟨by rfl, ?_⟩) hS ?_
        rotate_left 1
        · intro w' hSw
          go_simp <;> with_reducible rfl
        try simp only [List.getElem_toArray, List.getElem_cons_zero, List.getElem_cons_succ, Act.put, List.setIfInBounds_toArray, List.set_cons_zero, List.set_cons_succ]
        refine wpAnyH_take (i := 17) (v := ?_) rfl (by kernel_rfl) (by kernel_rfl) (by kernel_rfl) (fun _ _ _ h => h) (Or.inl ⟨by rfl, ?_⟩) hS ?_
        rotate_left 1
        · intro w' hSw
          go_simp <;> with_reducible rfl
        try simp only [List.getElem_toArray, List.getElem_cons_zero, List.getElem_cons_succ, Act.put, List.setIfInBounds_toArray, List.set_cons_zero, List.set_cons_succ]
        refine wpAnyH_take (i := 18) (v := ?_) rfl (by kernel_rfl) (by kernel_rfl) (by kernel_rfl) (fun _ _ _ h => h) (Or.inl ⟨by rfl, ?_⟩) hS ?_
        rotate_left 1
        · intro w' hSw
          go_simp <;> with_reducible rfl
        try simp only [List.getElem_toArray, List.getElem_cons_zero, List.getElem_cons_succ, Act.put, List.setIfInBounds_toArray, List.set_cons_zero, List.set_cons_succ]
        refine wpAnyH_ready (rs := [19]) (by kernel_rfl) (by simp) (AllReadyH.cons rfl (fun K hK => ?_) AllReadyH.nil)
        go_simp
        refine hK _ _ ⟨(World.cell?_setCell_other _ _ _ _ (by intro e; injection e with _ e; cases e)).trans hS.1, (World.cell?_setCell_other _ _ _ _ (by intro e; injection e with _ e; cases e)).trans hS.2⟩ (fun hS => ?_)
        clear hK K
        try simp only [List.getElem_toArray, List.getElem_cons_zero, List.getElem_cons_succ, Act.put, List.setIfInBounds_toArray, List.set_cons_zero, List.set_cons_succ]
        refine wpAnyH_done (by kernel_rfl) ?_ _
        obtain ⟨sx, tx⟩ := H.out.lined H2.out A2.out
        have H3 := Lib.hid (sx.below (Below.drew (Below.refl _ _)))
        have HT3 := Lib.hid ((HT.out.step tx).step (Ag.of_below _ (Below.drew (Below.refl _ _))))
        clear sx tx H2 A2 hS c0 c1 c2 f2
        generalize ((wc.setCell ⟨X, 2, none⟩ (.bool true)).drew) = wd at *
        have e0 := H3.out.bk.cell 0
        have e1 := H3.out.bk.cell 1
        have e2 := H3.out.bk.cell 2
        have e3 := H3.out.bk.cell 3
        have e4 := H3.out.bk.cell 4
        have e5 := H3.out.bk.cell 5
        have e6 := H3.out.bk.cell 6
        have e7 := H3.out.bk.cell 7
        have p0 := HT3.out.b2.cell 0
        have p1 := HT3.out.b2.cell 1
        have p2 := HT3.out.b2.cell 2
        have p3 := HT3.out.b2.cell 3
        have p4 := HT3.out.b2.cell 4
        have p5 := HT3.out.b2.cell 5
        have p6 := HT3.out.b2.cell 6
        have p7 := HT3.out.b2.cell 7
        have z0 := HT3.out.b2.frozen 0
        have z1 := HT3.out.b2.frozen 1
        have z2 := HT3.out.b2.frozen 2
        have z3 := HT3.out.b2.frozen 3
        have z4 := HT3.out.b2.frozen 4
        have z5 := HT3.out.b2.frozen 5
        have z6 := HT3.out.b2.frozen 6
        have z7 := HT3.out.b2.frozen 7
        simp only [ivV, List.getElem?_cons_zero, List.getElem?_cons_succ] at e0 e1 e2 e3 e4 e5 e6 e7 p0 p1 p2 p3 p4 p5 p6 p7
        go_wp2_with fail
        have HF := Lib.hid (inst_end HT3.out H3.out HK.out o1 o2 o3 o4 o5 o6 o7 o8)
        have HB := Lib.hid (set8_bk HT3.out.b2 o1 o2 o3 o4 o5 o6 o7 o8)
        refine bodyPost_ret (leave_inst w.heap.size o1 o2 o3 o4 o5 o6 o7 o8 (.string ⟨lb.toArray⟩) _ (set8 wd w.heap.size o1 o2 o3 o4 o5 o6 o7 o8) HB.out rfl rfl) rfl ?_
        exact ⟨(⟨o1, o2, o3, o4, o5, o6, o7, o8⟩, lb), a', true, rfl, HF.out.1, HF.out.2, (fun q => by cases q), fun _ => HIN.out.1.2 (by rw [HIN.out.2]; rfl)⟩
end Go.Proofs.YtjebjninlejoeaaGreatDoor

