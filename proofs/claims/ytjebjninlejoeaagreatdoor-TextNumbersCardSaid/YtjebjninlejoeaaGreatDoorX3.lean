/- text, the walk: reading the rest of an instruction. -/
import Derived.Test.YtjebjninlejoeaaGreatDoorZC
namespace Go.Proofs.YtjebjninlejoeaaGreatDoor
open Go.RowKit Go.Maps Go.ChangeMaps
set_option linter.unusedVariables false
set_option linter.unusedSimpArgs false
set_option linter.unusedSectionVars false
set_option maxRecDepth 100000

def ivV (i : IV) : List Value := [.int .u8 i.op, .bool i.narrow, .int .i64 i.dst, .int .i64 i.src, .bool i.useImm, .int .i64 i.off, .int .i64 i.imm, .int .i64 i.size]
def rdV (N : Nat) (i : IV) (lb : Nm) : List Value := .pointer (some ⟨N, 0, none⟩) :: (ivV i ++ [.string ⟨lb.toArray⟩])
/-- A reader of a line. -/
structure RdAt (w : World) (R N : Nat) (K : Nat → Prop) (i : IV) (lb : Nm) (l : List Nm) (n : Int) : Prop where
  bk : Bk w R 126 (rdV N i lb)
  row : RowAt w N K l n
  ne : R ≠ N
  nk : ¬ K R
def Fr (R N : Nat) (b : Nat) : Prop := b ≠ N ∧ b ≠ R
theorem RdAt.rowed {w w1 : World} {R N : Nat} {K : Nat → Prop} {i : IV} {lb : Nm} {l t : List Nm} {n : Int} (h : RdAt w R N K i lb l n) (h1 : RowAt w1 N K t n) (a1 : Ag (fun b => b ≠ N) w w1) : RdAt w1 R N K i lb t n ∧ Ag (Fr R N) w w1 :=
  ⟨⟨(a1.block R h.bk.lt h.ne).trans h.bk, h1, h.ne, h.nk⟩, a1.mono fun k _ q => q.1⟩
theorem RdAt.put {w : World} {R N : Nat} {K : Nat → Prop} {i i' : IV} {lb lb' : Nm} {l : List Nm} {n : Int} (h : RdAt w R N K i lb l n) (k : Nat) (u : Value) (e : (rdV N i lb).set k u = rdV N i' lb') : RdAt (w.setCell ⟨R, k, none⟩ u) R N K i' lb' l n ∧ Ag (Fr R N) w (w.setCell ⟨R, k, none⟩ u) := by
  refine ⟨⟨?_, h.row.keep (fun b _ hb => Below.heap_setCell w _ _ b (fun eb => ?_)), h.ne, h.nk⟩, (Ag.refl _ w).setCell (fun _ q => q.2 rfl) _⟩
  · have := h.bk.set k u
    rw [e] at this
    exact this
  · have eb : b = R := eb
    rcases hb with hb | hb
    · exact h.ne (eb.symm.trans hb)
    · exact h.nk (by rw [← eb]; exact hb)
theorem RdAt.below {w w' : World} {R N : Nat} {K : Nat → Prop} {i : IV} {lb : Nm} {l : List Nm} {n : Int} (h : RdAt w R N K i lb l n) (hb : Below w.heap.size w w') : RdAt w' R N K i lb l n :=
  ⟨h.bk.below hb h.bk.lt, h.row.below hb, h.ne, h.nk⟩
theorem RdAt.cells {w : World} {R N : Nat} {K : Nat → Prop} {i : IV} {lb : Nm} {l : List Nm} {n : Int} (h : RdAt w R N K i lb l n) :
    (w.cell? ⟨R, 0, none⟩ = some (.pointer (some ⟨N, 0, none⟩)) ∧ w.cell? ⟨R, 3, none⟩ = some (.int .i64 i.dst) ∧ w.cell? ⟨R, 4, none⟩ = some (.int .i64 i.src) ∧ w.cell? ⟨R, 5, none⟩ = some (.bool i.useImm) ∧ w.cell? ⟨R, 6, none⟩ = some (.int .i64 i.off) ∧ w.cell? ⟨R, 7, none⟩ = some (.int .i64 i.imm) ∧ w.cell? ⟨R, 9, none⟩ = some (.string ⟨lb.toArray⟩)) ∧
    (w.frozen? ⟨R, 3, none⟩ = false ∧ w.frozen? ⟨R, 4, none⟩ = false ∧ w.frozen? ⟨R, 5, none⟩ = false ∧ w.frozen? ⟨R, 6, none⟩ = false ∧ w.frozen? ⟨R, 7, none⟩ = false ∧ w.frozen? ⟨R, 9, none⟩ = false) :=
  ⟨⟨h.bk.cell 0, h.bk.cell 3, h.bk.cell 4, h.bk.cell 5, h.bk.cell 6, h.bk.cell 7, h.bk.cell 9⟩, h.bk.frozen 3, h.bk.frozen 4, h.bk.frozen 5, h.bk.frozen 6, h.bk.frozen 7, h.bk.frozen 9⟩
/-- What a method of a reader tells. -/
def RdR (R N : Nat) (K : Nat → Prop) (n : Int) (w : World) (r : Option (IV × Nm × List Nm)) (v : Value) (x : Ending) (w' : World) : Prop :=
  match r with
  | some (i, lb, t) => x = .returned v ∧ RdAt w' R N K i lb t n ∧ Ag (Fr R N) w w'
  | none => x = Thrown 120 n ∧ Ag (Fr R N) w w'
theorem Tv.fr {B R N : Nat} {w w' : World} (h : Tv B w) (ha : Ag (Fr R N) w w') (hN : B ≤ N) (hR : B ≤ R) (hw : B ≤ w.heap.size) : Tv B w' := h.ag ha hw (fun i hi => ⟨by omega, by omega⟩)
/-- What taking one word tells. -/
def MusR (N : Nat) (K : Nat → Prop) (n : Int) (w : World) (r : Option (List Nm)) (x : Ending) (w' : World) : Prop :=
  match r with
  | some t => (∃ s, x = .returned (.string s)) ∧ RowAt w' N K t n ∧ Ag (fun b => b ≠ N) w w'
  | none => x = Thrown 120 n ∧ Ag (fun b => b ≠ N) w w'
/-- What a cell tells. -/
def CelR (R N : Nat) (K : Nat → Prop) (n : Int) (w : World) (i : IV) (r : Option (Int × Int × List Nm)) (x : Ending) (w' : World) : Prop :=
  match r with
  | some (a, o, t) => x = .returned (.int .i64 a) ∧ RdAt w' R N K { i with off := o } [] t n ∧ Ag (Fr R N) w w'
  | none => x = Thrown 120 n ∧ Ag (Fr R N) w w'
theorem must_step {w : World} {R N : Nat} {K : Nat → Prop} {i : IV} {lb : Nm} {l : List Nm} {n : Int} (h : RdAt w R N K i lb l n) (m : UInt8) (z : Nat) (hz : w.heap.size = z) :
    RdAt (w.alloc (.cells #[.string ⟨#[m]⟩] 9)) R N K i lb l n ∧ Ag (Fr R N) w (w.alloc (.cells #[.string ⟨#[m]⟩] 9)) ∧
    Calls Tryz.prog 68 #[.pointer (some ⟨N, 0, none⟩), .slice (some ⟨z, 0, none⟩) 1 1] (w.alloc (.cells #[.string ⟨#[m]⟩] 9)) fun x w' => MusR N K n (w.alloc (.cells #[.string ⟨#[m]⟩] 9)) (mustP [m] l) x w' := by
  subst hz
  have n1 := (Below.refl w.heap.size w).alloc (Nat.le_refl _) (.cells #[.string ⟨#[m]⟩] 9)
  have hB1 := Bk.new w 9 [.string ⟨#[m]⟩]
  have h1 := h.below n1
  refine ⟨h1, Ag.of_below _ n1, ?_⟩
  have ht := takeM_any h1.row h1.row.lt [[m]] w.heap.size 1 (by simp) (by simp) (fun j x hj => by
    have hc := hB1.cell j
    rw [show (w.alloc (.cells #[.string ⟨#[m]⟩] 9)).cell? ⟨w.heap.size, j, none⟩ = _ from hc]
    match j, hj with
    | 0, hj => simp at hj; subst hj; rfl
    | j + 1, hj => simp at hj)
  refine ht.mono ?_
  intro x w' hx
  cases l with
  | nil => exact ⟨hx.1, by rw [hx.2]; exact Ag.refl _ _⟩
  | cons s t =>
    simp only [List.mem_cons, List.not_mem_nil, or_false] at hx
    by_cases e : s = [m]
    · simp only [e, if_true] at hx
      simp only [MusR, mustP, e, if_true]
      exact ⟨⟨_, hx.1⟩, hx.2⟩
    · simp only [e, if_false] at hx
      simp only [MusR, mustP, e, if_false]
      exact ⟨hx.1, by rw [hx.2]; exact Ag.refl _ _⟩
section
variable {w : World} {R N : Nat} {K : Nat → Prop} {i : IV} {l : List Nm} {n : Int} (h : RdAt w R N K i [] l n) {B : Nat} (hv : Tv B w) (hN : B ≤ N) (hR : B ≤ R)
include h hv hN hR
set_option maxHeartbeats 4000000 in
theorem second_any : Calls Tryz.prog 133 #[.pointer (some ⟨R, 0, none⟩)] w fun x w' => RdR R N K n w ((secT i l).map fun p => (p.1, [], p.2)) (.tuple #[]) x w' := by
  have hnext := next_any h.row
  have hreg := register_any (l.headD []) w
  obtain ⟨⟨c0, c3, c4, c5, c6, c7, c9⟩, f3, f4, f5, f6, f7, f9⟩ := h.cells
  have hNl := h.row.lt
  have hB : B ≤ w.heap.size := by omega
  cases hr : regP (l.headD []) with
  | some v =>
    cases l with
    | nil =>
      have : regP (([] : List Nm).headD []) = none := by decide
      rw [this] at hr
      cases hr
    | cons s t =>
      simp only [List.headD_cons] at hr hnext hreg
      have hI : regI s = v := by unfold regI; rw [hr]; rfl
      have hv0 := reg_pos hr
      have d1 : decide ((0 : Int) ≤ v) = true := decide_eq_true hv0
      rw [hI] at hreg
      have hrg := reg_any h.row
      simp only [regT, hr, Option.map_some, RowR] at hrg
      simp only [secT, hr, Option.map_some, RdR]
      go_enter Tryz.func133, Tryz.ntmps133
      go_wp2_with fail
      refine hnext.mono ?_
      rintro _ w1 ⟨rfl, rfl⟩
      go_wp2_with fail
      refine hreg.mono ?_
      rintro _ w2 ⟨rfl, rfl⟩
      go_wp2_with fail
      refine hrg.mono ?_
      rintro _ w3 ⟨rfl, h3, a3⟩
      obtain ⟨h4, a4⟩ := h.rowed h3 a3
      clear c0 c3 c4 c5 c6 c7 c9 f3 f4 f5 f6 f7 f9
      obtain ⟨⟨c0, c3, c4, c5, c6, c7, c9⟩, f3, f4, f5, f6, f7, f9⟩ := h4.cells
      obtain ⟨h5, a5⟩ := h4.put (i' := { i with src := v }) 4 (iV v) rfl
      unfold iV at *
      go_wp2_with fail
      first
        | exact bodyPost_end (v := .tuple #[]) (by simp [results, Tryz.results133, go_sem]) rfl ⟨rfl, h5, a4.trans a5⟩
        | exact bodyPost_ret (v := .tuple #[]) (by simp [results, Tryz.results133, go_sem]) rfl ⟨rfl, h5, a4.trans a5⟩
  | none =>
    have hI : regI (l.headD []) = -1 := by unfold regI; rw [hr]; rfl
    rw [hI] at hreg
    obtain ⟨h1, a1⟩ := h.put (i' := { i with useImm := true }) 5 (.bool true) rfl
    have hnext1 := next_any h1.row
    have hv1 := hv.fr a1 hN hR hB
    by_cases hm : l.headD [] = [45]
    · cases l with
      | nil => cases hm
      | cons s t =>
        simp only [List.headD_cons] at hm hr hnext hnext1 hreg
        subst hm
        have hs := signed_any h1.row hv1 hN
        have hS : signT ([45] :: t) = (numT t).map (fun p => (-p.1, p.2)) := by simp [signT]
        have hC : secT i ([45] :: t) = (numT t).map (fun p => ({ i with useImm := true, imm := -p.1 }, p.2)) := by simp [secT, hr]
        rw [hS] at hs
        rw [hC]
        go_enter Tryz.func133, Tryz.ntmps133
        go_wp2_with fail
        refine hnext.mono ?_
        rintro _ w1 ⟨rfl, rfl⟩
        go_wp2_with fail
        refine hreg.mono ?_
        rintro _ w2 ⟨rfl, rfl⟩
        go_wp2_with fail
        refine hnext1.mono ?_
        rintro _ w3 ⟨rfl, rfl⟩
        go_wp2_with fail
        refine hs.mono ?_
        rintro x w4 hx
        clear c0 c3 c4 c5 c6 c7 c9 f3 f4 f5 f6 f7 f9
        cases hq : numT t with
        | none =>
          simp only [hq, Option.map_none, RowR] at hx
          obtain ⟨rfl, b⟩ := hx
          refine ⟨rfl, ?_⟩
          simp only [hq, Option.map_none, RdR]
          exact ⟨rfl, a1.trans (b.mono fun _ _ q => q.1)⟩
        | some p =>
          simp only [hq, Option.map_some, RowR] at hx
          obtain ⟨rfl, r, b⟩ := hx
          obtain ⟨h4, e4⟩ := h1.rowed r b
          obtain ⟨⟨c0, c3, c4, c5, c6, c7, c9⟩, f3, f4, f5, f6, f7, f9⟩ := h4.cells
          obtain ⟨h5, a5⟩ := h4.put (i' := { i with useImm := true, imm := -p.1 }) 7 (iV (-p.1)) rfl
          have a6 := (a1.trans e4).trans a5
          clear hs hnext hnext1 h1 h a1 e4 a5 b r
          unfold iV at *
          go_wp2_with fail
          first
            | exact bodyPost_end (v := .tuple #[]) (by simp [results, Tryz.results133, go_sem]) rfl (by simp only [hq, Option.map_some, RdR]; exact ⟨(by first | rfl | trivial), h5, a6⟩)
            | exact bodyPost_ret (v := .tuple #[]) (by simp [results, Tryz.results133, go_sem]) rfl (by simp only [hq, Option.map_some, RdR]; exact ⟨(by first | rfl | trivial), h5, a6⟩)
    · have hm2 : (l.headD [] == [45]) = false := by simpa using hm
      have hs := number_any h1.row hv1 hN
      have hC : secT i l = (numT l).map (fun p => ({ i with useImm := true, imm := p.1 }, p.2)) := by
        cases l with
        | nil => rfl
        | cons s t =>
          simp only [List.headD_cons] at hm hr
          simp only [secT, hr, hm, if_false, numT]
          cases numP s <;> rfl
      rw [hC]
      clear hI hr hC
      generalize l.headD [] = s0 at *
      go_enter Tryz.func133, Tryz.ntmps133
      go_wp2_with fail
      refine hnext.mono ?_
      rintro _ w1 ⟨rfl, rfl⟩
      go_wp2_with fail
      refine hreg.mono ?_
      rintro _ w2 ⟨rfl, rfl⟩
      go_wp2_with fail
      refine hnext1.mono ?_
      rintro _ w3 ⟨rfl, rfl⟩
      go_wp2_with fail
      refine hs.mono ?_
      rintro x w4 hx
      clear c0 c3 c4 c5 c6 c7 c9 f3 f4 f5 f6 f7 f9
      cases hq : numT l with
      | none =>
        simp only [hq, Option.map_none, RowR] at hx
        obtain ⟨rfl, b⟩ := hx
        refine ⟨rfl, ?_⟩
        simp only [hq, Option.map_none, RdR]
        exact ⟨rfl, a1.trans (b.mono fun _ _ q => q.1)⟩
      | some p =>
        simp only [hq, Option.map_some, RowR] at hx
        obtain ⟨rfl, r, b⟩ := hx
        obtain ⟨h4, e4⟩ := h1.rowed r b
        obtain ⟨⟨c0, c3, c4, c5, c6, c7, c9⟩, f3, f4, f5, f6, f7, f9⟩ := h4.cells
        obtain ⟨h5, a5⟩ := h4.put (i' := { i with useImm := true, imm := p.1 }) 7 (iV (p.1)) rfl
        have a6 := (a1.trans e4).trans a5
        clear hs hnext hnext1 h1 h a1 e4 a5 b r
        unfold iV at *
        go_wp2_with fail
        first
          | exact bodyPost_end (v := .tuple #[]) (by simp [results, Tryz.results133, go_sem]) rfl (by simp only [hq, Option.map_some, RdR]; exact ⟨(by first | rfl | trivial), h5, a6⟩)
          | exact bodyPost_ret (v := .tuple #[]) (by simp [results, Tryz.results133, go_sem]) rfl (by simp only [hq, Option.map_some, RdR]; exact ⟨(by first | rfl | trivial), h5, a6⟩)
set_option maxHeartbeats 4000000 in
theorem far_any : Calls Tryz.prog 55 #[.pointer (some ⟨R, 0, none⟩)] w fun x w' => RdR R N K n w (toT i l) (.tuple #[]) x w' := by
  have hnext := next_any h.row
  have hB : B ≤ w.heap.size := by have := h.row.lt; omega
  obtain ⟨⟨c0, c3, c4, c5, c6, c7, c9⟩, f3, f4, f5, f6, f7, f9⟩ := h.cells
  have hs := signed_any h.row hv hN
  have htake := take_any h.row h.row.lt
  by_cases hl : labelP (l.headD []) = true
  · cases l with
    | nil => exact absurd hl (by decide)
    | cons s t =>
      simp only [List.headD_cons] at hl hnext
      have hsl := (h.row.ok s (List.mem_cons_self ..)).2.1
      have hlab := label_any s hsl w
      rw [hl] at hlab
      have hT : toT i (s :: t) = some (i, s, t) := by simp [toT, hl]
      rw [hT]
      go_enter Tryz.func55, Tryz.ntmps55
      go_wp2_with fail
      refine hnext.mono ?_
      rintro _ w1 ⟨rfl, rfl⟩
      go_wp2_with fail
      refine hlab.mono ?_
      rintro _ w2 ⟨rfl, rfl⟩
      go_wp2_with fail
      refine htake.mono ?_
      rintro _ w3 ⟨rfl, r, b⟩
      obtain ⟨h4, e4⟩ := h.rowed r b
      clear c0 c3 c4 c5 c6 c7 c9 f3 f4 f5 f6 f7 f9
      obtain ⟨⟨c0, c3, c4, c5, c6, c7, c9⟩, f3, f4, f5, f6, f7, f9⟩ := h4.cells
      obtain ⟨h5, a5⟩ := h4.put (i' := i) (lb' := s) 9 (.string ⟨s.toArray⟩) rfl
      have a6 := e4.trans a5
      clear hs hnext h e4 a5 b r
      go_wp2_with fail
      first
        | exact bodyPost_end (v := .tuple #[]) (by simp [results, Tryz.results55, go_sem]) rfl ⟨rfl, h5, a6⟩
        | exact bodyPost_ret (v := .tuple #[]) (by simp [results, Tryz.results55, go_sem]) rfl ⟨rfl, h5, a6⟩
  · have hl : labelP (l.headD []) = false := by simpa using hl
    have hsl : (l.headD []).length ≤ 1000000000 := by
      cases l with
      | nil => simp
      | cons s t => exact (h.row.ok s (List.mem_cons_self ..)).2.1
    have hlab := label_any (l.headD []) hsl w
    rw [hl] at hlab
    have hT : toT i l = (signT l).map fun p => ({ i with off := p.1 }, [], p.2) := by
      cases l with
      | nil => rfl
      | cons s t => simp only [List.headD_cons] at hl; simp [toT, hl]
    rw [hT]
    clear hl hsl hT htake
    generalize l.headD [] = s0 at *
    go_enter Tryz.func55, Tryz.ntmps55
    go_wp2_with fail
    refine hnext.mono ?_
    rintro _ w1 ⟨rfl, rfl⟩
    go_wp2_with fail
    refine hlab.mono ?_
    rintro _ w2 ⟨rfl, rfl⟩
    go_wp2_with fail
    refine hs.mono ?_
    rintro x w4 hx
    clear c0 c3 c4 c5 c6 c7 c9 f3 f4 f5 f6 f7 f9
    cases hq : signT l with
    | none =>
      simp only [hq, RowR] at hx
      obtain ⟨rfl, b⟩ := hx
      refine ⟨rfl, ?_⟩
      simp only [hq, Option.map_none, RdR]
      exact ⟨rfl, b.mono fun _ _ q => q.1⟩
    | some p =>
      simp only [hq, RowR] at hx
      obtain ⟨rfl, r, b⟩ := hx
      obtain ⟨h4, e4⟩ := h.rowed r b
      obtain ⟨⟨c0, c3, c4, c5, c6, c7, c9⟩, f3, f4, f5, f6, f7, f9⟩ := h4.cells
      obtain ⟨h5, a5⟩ := h4.put (i' := { i with off := p.1 }) 6 (iV p.1) rfl
      have a6 := e4.trans a5
      clear hs hnext h e4 a5 b r
      unfold iV at *
      go_wp2_with fail
      first
        | exact bodyPost_end (v := .tuple #[]) (by simp [results, Tryz.results55, go_sem]) rfl (by simp only [hq, Option.map_some, RdR]; exact ⟨(by first | rfl | trivial), h5, a6⟩)
        | exact bodyPost_ret (v := .tuple #[]) (by simp [results, Tryz.results55, go_sem]) rfl (by simp only [hq, Option.map_some, RdR]; exact ⟨(by first | rfl | trivial), h5, a6⟩)
set_option maxHeartbeats 4000000 in
theorem neg_any : Calls Tryz.prog 60 #[.pointer (some ⟨R, 0, none⟩)] w fun x w' => RdR R N K n w ((regT l).map fun p => ({ i with dst := p.1 }, [], p.2)) (.tuple #[]) x w' := by
  have hB : B ≤ w.heap.size := by have := h.row.lt; omega
  have h0 := h
  have a0 := Ag.refl (Fr R N) w
  go_enter Tryz.func60, Tryz.ntmps60
  obtain ⟨⟨c0_0, c3_0, c4_0, c5_0, c6_0, c7_0, c9_0⟩, f3_0, f4_0, f5_0, f6_0, f7_0, f9_0⟩ := h0.cells
  have s0 := reg_any h0.row
  go_wp2_with fail
  refine s0.mono ?_
  rintro x w1 hx
  clear c0_0 c3_0 c4_0 c5_0 c6_0 c7_0 c9_0 f3_0 f4_0 f5_0 f6_0 f7_0 f9_0
  cases q0 : regT (l) with
  | none =>
    simp only [q0, RowR] at hx
    obtain ⟨rfl, b0⟩ := hx
    refine ⟨rfl, ?_⟩
    simp only [q0, Option.bind_some, Option.bind_none, Option.map_none, Option.map_some, RdR, CelR]
    exact ⟨rfl, a0.trans (b0.mono fun _ _ q => q.1)⟩
  | some p0 =>
    simp only [q0, RowR] at hx
    obtain ⟨rfl, r0, b0⟩ := hx
    obtain ⟨g0, e0⟩ := h0.rowed r0 b0
    obtain ⟨⟨c0_0, c3_0, c4_0, c5_0, c6_0, c7_0, c9_0⟩, f3_0, f4_0, f5_0, f6_0, f7_0, f9_0⟩ := g0.cells
    obtain ⟨h1, d0⟩ := g0.put (i' := { i with dst := p0.1 }) 3 (iV p0.1) rfl
    have a1 := (a0.trans e0).trans d0
    unfold iV at *
    clear b0 r0 e0 d0
    go_wp2_with fail
    first
      | exact bodyPost_end (v := .tuple #[]) (by simp [results, Tryz.results60, go_sem]) rfl (by simp only [q0, Option.bind_some, Option.bind_none, Option.map_none, Option.map_some, RdR, CelR]; exact ⟨(by first | rfl | trivial), h1, a1⟩)
      | exact bodyPost_ret (v := .tuple #[]) (by simp [results, Tryz.results60, go_sem]) rfl (by simp only [q0, Option.bind_some, Option.bind_none, Option.map_none, Option.map_some, RdR, CelR]; exact ⟨(by first | rfl | trivial), h1, a1⟩)
set_option maxHeartbeats 4000000 in
theorem alu_any : Calls Tryz.prog 59 #[.pointer (some ⟨R, 0, none⟩)] w fun x w' => RdR R N K n w ((aluT i l).map fun p => (p.1, [], p.2)) (.tuple #[]) x w' := by
  have hB : B ≤ w.heap.size := by have := h.row.lt; omega
  have h0 := h
  have a0 := Ag.refl (Fr R N) w
  go_enter Tryz.func59, Tryz.ntmps59
  obtain ⟨⟨c0_0, c3_0, c4_0, c5_0, c6_0, c7_0, c9_0⟩, f3_0, f4_0, f5_0, f6_0, f7_0, f9_0⟩ := h0.cells
  have s0 := reg_any h0.row
  go_wp2_with fail
  refine s0.mono ?_
  rintro x w1 hx
  clear c0_0 c3_0 c4_0 c5_0 c6_0 c7_0 c9_0 f3_0 f4_0 f5_0 f6_0 f7_0 f9_0
  cases q0 : regT (l) with
  | none =>
    simp only [q0, RowR] at hx
    obtain ⟨rfl, b0⟩ := hx
    refine ⟨rfl, ?_⟩
    simp only [aluT, q0, Option.bind_some, Option.bind_none, Option.map_none, Option.map_some, RdR, CelR]
    exact ⟨rfl, a0.trans (b0.mono fun _ _ q => q.1)⟩
  | some p0 =>
    simp only [q0, RowR] at hx
    obtain ⟨rfl, r0, b0⟩ := hx
    obtain ⟨g0, e0⟩ := h0.rowed r0 b0
    obtain ⟨⟨c0_0, c3_0, c4_0, c5_0, c6_0, c7_0, c9_0⟩, f3_0, f4_0, f5_0, f6_0, f7_0, f9_0⟩ := g0.cells
    obtain ⟨h1, d0⟩ := g0.put (i' := { i with dst := p0.1 }) 3 (iV p0.1) rfl
    have a1 := (a0.trans e0).trans d0
    unfold iV at *
    clear b0 r0 e0 d0
    obtain ⟨⟨c0_1, c3_1, c4_1, c5_1, c6_1, c7_1, c9_1⟩, f3_1, f4_1, f5_1, f6_1, f7_1, f9_1⟩ := h1.cells
    obtain ⟨g1, n1, s1⟩ := must_step h1 44 w1.heap.size (by simp [World.setCell])
    go_wp2_with fail
    refine s1.mono ?_
    rintro x w2 hx
    clear c0_1 c3_1 c4_1 c5_1 c6_1 c7_1 c9_1 f3_1 f4_1 f5_1 f6_1 f7_1 f9_1
    cases q1 : mustP [44] (p0.2) with
    | none =>
      simp only [q1, MusR] at hx
      obtain ⟨rfl, b1⟩ := hx
      refine ⟨rfl, ?_⟩
      simp only [aluT, q0, q1, Option.bind_some, Option.bind_none, Option.map_none, Option.map_some, RdR, CelR]
      exact ⟨rfl, (a1.trans n1).trans (b1.mono fun _ _ q => q.1)⟩
    | some p1 =>
      simp only [q1, MusR] at hx
      obtain ⟨⟨u1, rfl⟩, r1, b1⟩ := hx
      obtain ⟨h2, e1⟩ := g1.rowed r1 b1
      have a2 := (a1.trans n1).trans e1
      clear b1 r1 e1 n1 g1
      obtain ⟨⟨c0_2, c3_2, c4_2, c5_2, c6_2, c7_2, c9_2⟩, f3_2, f4_2, f5_2, f6_2, f7_2, f9_2⟩ := h2.cells
      have s2 := second_any h2 (hv.fr a2 hN hR hB) hN hR
      go_wp2_with fail
      refine s2.mono ?_
      rintro x w3 hx
      clear c0_2 c3_2 c4_2 c5_2 c6_2 c7_2 c9_2 f3_2 f4_2 f5_2 f6_2 f7_2 f9_2
      cases q2 : secT ({ i with dst := p0.1 }) (p1) with
      | none =>
        simp only [q2, Option.map_none, RdR] at hx
        obtain ⟨rfl, b2⟩ := hx
        refine ⟨rfl, ?_⟩
        simp only [aluT, q0, q1, q2, Option.bind_some, Option.bind_none, Option.map_none, Option.map_some, RdR, CelR]
        exact ⟨rfl, a2.trans b2⟩
      | some p2 =>
        simp only [q2, Option.map_some, RdR] at hx
        obtain ⟨rfl, h3, b2⟩ := hx
        have a3 := a2.trans b2
        clear b2
        go_wp2_with fail
        first
          | exact bodyPost_end (v := .tuple #[]) (by simp [results, Tryz.results59, go_sem]) rfl (by simp only [aluT, q0, q1, q2, Option.bind_some, Option.bind_none, Option.map_none, Option.map_some, RdR, CelR]; exact ⟨(by first | rfl | trivial), h3, a3⟩)
          | exact bodyPost_ret (v := .tuple #[]) (by simp [results, Tryz.results59, go_sem]) rfl (by simp only [aluT, q0, q1, q2, Option.bind_some, Option.bind_none, Option.map_none, Option.map_some, RdR, CelR]; exact ⟨(by first | rfl | trivial), h3, a3⟩)
set_option maxHeartbeats 4000000 in
theorem cell_any : Calls Tryz.prog 134 #[.pointer (some ⟨R, 0, none⟩)] w fun x w' => CelR R N K n w i (cellT l) x w' := by
  have hB : B ≤ w.heap.size := by have := h.row.lt; omega
  have h0 := h
  have a0 := Ag.refl (Fr R N) w
  go_enter Tryz.func134, Tryz.ntmps134
  obtain ⟨⟨c0_0, c3_0, c4_0, c5_0, c6_0, c7_0, c9_0⟩, f3_0, f4_0, f5_0, f6_0, f7_0, f9_0⟩ := h0.cells
  obtain ⟨g0, n0, s0⟩ := must_step h0 91 w.heap.size rfl
  go_wp2_with fail
  refine s0.mono ?_
  rintro x w1 hx
  clear c0_0 c3_0 c4_0 c5_0 c6_0 c7_0 c9_0 f3_0 f4_0 f5_0 f6_0 f7_0 f9_0
  cases q0 : mustP [91] (l) with
  | none =>
    simp only [q0, MusR] at hx
    obtain ⟨rfl, b0⟩ := hx
    refine ⟨rfl, ?_⟩
    simp only [cellT, q0, Option.bind_some, Option.bind_none, Option.map_none, Option.map_some, RdR, CelR]
    exact ⟨rfl, (a0.trans n0).trans (b0.mono fun _ _ q => q.1)⟩
  | some p0 =>
    simp only [q0, MusR] at hx
    obtain ⟨⟨u0, rfl⟩, r0, b0⟩ := hx
    obtain ⟨h1, e0⟩ := g0.rowed r0 b0
    have a1 := (a0.trans n0).trans e0
    clear b0 r0 e0 n0 g0
    obtain ⟨⟨c0_1, c3_1, c4_1, c5_1, c6_1, c7_1, c9_1⟩, f3_1, f4_1, f5_1, f6_1, f7_1, f9_1⟩ := h1.cells
    have s1 := reg_any h1.row
    go_wp2_with fail
    refine s1.mono ?_
    rintro x w2 hx
    clear c0_1 c3_1 c4_1 c5_1 c6_1 c7_1 c9_1 f3_1 f4_1 f5_1 f6_1 f7_1 f9_1
    cases q1 : regT (p0) with
    | none =>
      simp only [q1, RowR] at hx
      obtain ⟨rfl, b1⟩ := hx
      refine ⟨rfl, ?_⟩
      simp only [cellT, q0, q1, Option.bind_some, Option.bind_none, Option.map_none, Option.map_some, RdR, CelR]
      exact ⟨rfl, a1.trans (b1.mono fun _ _ q => q.1)⟩
    | some p1 =>
      simp only [q1, RowR] at hx
      obtain ⟨rfl, r1, b1⟩ := hx
      obtain ⟨g1, e1⟩ := h1.rowed r1 b1
      have h2 := g1
      have a2 := a1.trans e1
      unfold iV at *
      clear b1 r1 e1
      obtain ⟨⟨c0_2, c3_2, c4_2, c5_2, c6_2, c7_2, c9_2⟩, f3_2, f4_2, f5_2, f6_2, f7_2, f9_2⟩ := h2.cells
      have s2 := signed_any h2.row (hv.fr a2 hN hR hB) hN
      go_wp2_with fail
      refine s2.mono ?_
      rintro x w3 hx
      clear c0_2 c3_2 c4_2 c5_2 c6_2 c7_2 c9_2 f3_2 f4_2 f5_2 f6_2 f7_2 f9_2
      cases q2 : signT (p1.2) with
      | none =>
        simp only [q2, RowR] at hx
        obtain ⟨rfl, b2⟩ := hx
        refine ⟨rfl, ?_⟩
        simp only [cellT, q0, q1, q2, Option.bind_some, Option.bind_none, Option.map_none, Option.map_some, RdR, CelR]
        exact ⟨rfl, a2.trans (b2.mono fun _ _ q => q.1)⟩
      | some p2 =>
        simp only [q2, RowR] at hx
        obtain ⟨rfl, r2, b2⟩ := hx
        obtain ⟨g2, e2⟩ := h2.rowed r2 b2
        obtain ⟨⟨c0_2, c3_2, c4_2, c5_2, c6_2, c7_2, c9_2⟩, f3_2, f4_2, f5_2, f6_2, f7_2, f9_2⟩ := g2.cells
        obtain ⟨h3, d2⟩ := g2.put (i' := { i with off := p2.1 }) 6 (iV p2.1) rfl
        have a3 := (a2.trans e2).trans d2
        unfold iV at *
        clear b2 r2 e2 d2
        obtain ⟨⟨c0_3, c3_3, c4_3, c5_3, c6_3, c7_3, c9_3⟩, f3_3, f4_3, f5_3, f6_3, f7_3, f9_3⟩ := h3.cells
        obtain ⟨g3, n3, s3⟩ := must_step h3 93 w3.heap.size (by simp [World.setCell])
        go_wp2_with fail
        refine s3.mono ?_
        rintro x w4 hx
        clear c0_3 c3_3 c4_3 c5_3 c6_3 c7_3 c9_3 f3_3 f4_3 f5_3 f6_3 f7_3 f9_3
        cases q3 : mustP [93] (p2.2) with
        | none =>
          simp only [q3, MusR] at hx
          obtain ⟨rfl, b3⟩ := hx
          refine ⟨rfl, ?_⟩
          simp only [cellT, q0, q1, q2, q3, Option.bind_some, Option.bind_none, Option.map_none, Option.map_some, RdR, CelR]
          exact ⟨rfl, (a3.trans n3).trans (b3.mono fun _ _ q => q.1)⟩
        | some p3 =>
          simp only [q3, MusR] at hx
          obtain ⟨⟨u3, rfl⟩, r3, b3⟩ := hx
          obtain ⟨h4, e3⟩ := g3.rowed r3 b3
          have a4 := (a3.trans n3).trans e3
          clear b3 r3 e3 n3 g3
          go_wp2_with fail
          go_ret
          simp only [cellT, q0, q1, q2, q3, Option.bind_some, Option.bind_none, Option.map_none, Option.map_some, RdR, CelR]
          exact ⟨rfl, h4, a4⟩
set_option maxHeartbeats 4000000 in
theorem ask_any : Calls Tryz.prog 62 #[.pointer (some ⟨R, 0, none⟩)] w fun x w' => RdR R N K n w ((aluT i l).bind fun p => (mustP [44] p.2).bind fun l => toT p.1 l) (.tuple #[]) x w' := by
  have hB : B ≤ w.heap.size := by have := h.row.lt; omega
  have h0 := h
  have a0 := Ag.refl (Fr R N) w
  go_enter Tryz.func62, Tryz.ntmps62
  obtain ⟨⟨c0_0, c3_0, c4_0, c5_0, c6_0, c7_0, c9_0⟩, f3_0, f4_0, f5_0, f6_0, f7_0, f9_0⟩ := h0.cells
  have s0 := alu_any h0 (hv.fr a0 hN hR hB) hN hR
  go_wp2_with fail
  refine s0.mono ?_
  rintro x w1 hx
  clear c0_0 c3_0 c4_0 c5_0 c6_0 c7_0 c9_0 f3_0 f4_0 f5_0 f6_0 f7_0 f9_0
  cases q0 : aluT (i) (l) with
  | none =>
    simp only [q0, Option.map_none, RdR] at hx
    obtain ⟨rfl, b0⟩ := hx
    refine ⟨rfl, ?_⟩
    simp only [q0, Option.bind_some, Option.bind_none, Option.map_none, Option.map_some, RdR, CelR]
    exact ⟨rfl, a0.trans b0⟩
  | some p0 =>
    simp only [q0, Option.map_some, RdR] at hx
    obtain ⟨rfl, h1, b0⟩ := hx
    have a1 := a0.trans b0
    clear b0
    obtain ⟨⟨c0_1, c3_1, c4_1, c5_1, c6_1, c7_1, c9_1⟩, f3_1, f4_1, f5_1, f6_1, f7_1, f9_1⟩ := h1.cells
    obtain ⟨g1, n1, s1⟩ := must_step h1 44 w1.heap.size rfl
    go_wp2_with fail
    refine s1.mono ?_
    rintro x w2 hx
    clear c0_1 c3_1 c4_1 c5_1 c6_1 c7_1 c9_1 f3_1 f4_1 f5_1 f6_1 f7_1 f9_1
    cases q1 : mustP [44] (p0.2) with
    | none =>
      simp only [q1, MusR] at hx
      obtain ⟨rfl, b1⟩ := hx
      refine ⟨rfl, ?_⟩
      simp only [q0, q1, Option.bind_some, Option.bind_none, Option.map_none, Option.map_some, RdR, CelR]
      exact ⟨rfl, (a1.trans n1).trans (b1.mono fun _ _ q => q.1)⟩
    | some p1 =>
      simp only [q1, MusR] at hx
      obtain ⟨⟨u1, rfl⟩, r1, b1⟩ := hx
      obtain ⟨h2, e1⟩ := g1.rowed r1 b1
      have a2 := (a1.trans n1).trans e1
      clear b1 r1 e1 n1 g1
      obtain ⟨⟨c0_2, c3_2, c4_2, c5_2, c6_2, c7_2, c9_2⟩, f3_2, f4_2, f5_2, f6_2, f7_2, f9_2⟩ := h2.cells
      have s2 := far_any h2 (hv.fr a2 hN hR hB) hN hR
      go_wp2_with fail
      refine s2.mono ?_
      rintro x w3 hx
      clear c0_2 c3_2 c4_2 c5_2 c6_2 c7_2 c9_2 f3_2 f4_2 f5_2 f6_2 f7_2 f9_2
      cases q2 : toT (p0.1) (p1) with
      | none =>
        simp only [q2, Option.map_none, RdR] at hx
        obtain ⟨rfl, b2⟩ := hx
        refine ⟨rfl, ?_⟩
        simp only [q0, q1, q2, Option.bind_some, Option.bind_none, Option.map_none, Option.map_some, RdR, CelR]
        exact ⟨rfl, a2.trans b2⟩
      | some p2 =>
        simp only [q2, Option.map_some, RdR] at hx
        obtain ⟨rfl, h3, b2⟩ := hx
        have a3 := a2.trans b2
        clear b2
        go_wp2_with fail
        first
          | exact bodyPost_end (v := .tuple #[]) (by simp [results, Tryz.results62, go_sem]) rfl (by simp only [q0, q1, q2, Option.bind_some, Option.bind_none, Option.map_none, Option.map_some, RdR, CelR]; exact ⟨(by first | rfl | trivial), h3, a3⟩)
          | exact bodyPost_ret (v := .tuple #[]) (by simp [results, Tryz.results62, go_sem]) rfl (by simp only [q0, q1, q2, Option.bind_some, Option.bind_none, Option.map_none, Option.map_some, RdR, CelR]; exact ⟨(by first | rfl | trivial), h3, a3⟩)
set_option maxHeartbeats 4000000 in
theorem load_any : Calls Tryz.prog 63 #[.pointer (some ⟨R, 0, none⟩)] w fun x w' => RdR R N K n w ((regT l).bind fun p => (mustP [44] p.2).bind fun l => (cellT l).map fun q => ({ i with dst := p.1, src := q.1, off := q.2.1 }, [], q.2.2)) (.tuple #[]) x w' := by
  have hB : B ≤ w.heap.size := by have := h.row.lt; omega
  have h0 := h
  have a0 := Ag.refl (Fr R N) w
  go_enter Tryz.func63, Tryz.ntmps63
  obtain ⟨⟨c0_0, c3_0, c4_0, c5_0, c6_0, c7_0, c9_0⟩, f3_0, f4_0, f5_0, f6_0, f7_0, f9_0⟩ := h0.cells
  have s0 := reg_any h0.row
  go_wp2_with fail
  refine s0.mono ?_
  rintro x w1 hx
  clear c0_0 c3_0 c4_0 c5_0 c6_0 c7_0 c9_0 f3_0 f4_0 f5_0 f6_0 f7_0 f9_0
  cases q0 : regT (l) with
  | none =>
    simp only [q0, RowR] at hx
    obtain ⟨rfl, b0⟩ := hx
    refine ⟨rfl, ?_⟩
    simp only [q0, Option.bind_some, Option.bind_none, Option.map_none, Option.map_some, RdR, CelR]
    exact ⟨rfl, a0.trans (b0.mono fun _ _ q => q.1)⟩
  | some p0 =>
    simp only [q0, RowR] at hx
    obtain ⟨rfl, r0, b0⟩ := hx
    obtain ⟨g0, e0⟩ := h0.rowed r0 b0
    obtain ⟨⟨c0_0, c3_0, c4_0, c5_0, c6_0, c7_0, c9_0⟩, f3_0, f4_0, f5_0, f6_0, f7_0, f9_0⟩ := g0.cells
    obtain ⟨h1, d0⟩ := g0.put (i' := { i with dst := p0.1 }) 3 (iV p0.1) rfl
    have a1 := (a0.trans e0).trans d0
    unfold iV at *
    clear b0 r0 e0 d0
    obtain ⟨⟨c0_1, c3_1, c4_1, c5_1, c6_1, c7_1, c9_1⟩, f3_1, f4_1, f5_1, f6_1, f7_1, f9_1⟩ := h1.cells
    obtain ⟨g1, n1, s1⟩ := must_step h1 44 w1.heap.size (by simp [World.setCell])
    go_wp2_with fail
    refine s1.mono ?_
    rintro x w2 hx
    clear c0_1 c3_1 c4_1 c5_1 c6_1 c7_1 c9_1 f3_1 f4_1 f5_1 f6_1 f7_1 f9_1
    cases q1 : mustP [44] (p0.2) with
    | none =>
      simp only [q1, MusR] at hx
      obtain ⟨rfl, b1⟩ := hx
      refine ⟨rfl, ?_⟩
      simp only [q0, q1, Option.bind_some, Option.bind_none, Option.map_none, Option.map_some, RdR, CelR]
      exact ⟨rfl, (a1.trans n1).trans (b1.mono fun _ _ q => q.1)⟩
    | some p1 =>
      simp only [q1, MusR] at hx
      obtain ⟨⟨u1, rfl⟩, r1, b1⟩ := hx
      obtain ⟨h2, e1⟩ := g1.rowed r1 b1
      have a2 := (a1.trans n1).trans e1
      clear b1 r1 e1 n1 g1
      obtain ⟨⟨c0_2, c3_2, c4_2, c5_2, c6_2, c7_2, c9_2⟩, f3_2, f4_2, f5_2, f6_2, f7_2, f9_2⟩ := h2.cells
      have s2 := cell_any h2 (hv.fr a2 hN hR hB) hN hR
      go_wp2_with fail
      refine s2.mono ?_
      rintro x w3 hx
      clear c0_2 c3_2 c4_2 c5_2 c6_2 c7_2 c9_2 f3_2 f4_2 f5_2 f6_2 f7_2 f9_2
      cases q2 : cellT (p1) with
      | none =>
        simp only [q2, CelR] at hx
        obtain ⟨rfl, b2⟩ := hx
        refine ⟨rfl, ?_⟩
        simp only [q0, q1, q2, Option.bind_some, Option.bind_none, Option.map_none, Option.map_some, RdR, CelR]
        exact ⟨rfl, a2.trans b2⟩
      | some p2 =>
        simp only [q2, CelR] at hx
        obtain ⟨rfl, g2, b2⟩ := hx
        obtain ⟨⟨c0_2, c3_2, c4_2, c5_2, c6_2, c7_2, c9_2⟩, f3_2, f4_2, f5_2, f6_2, f7_2, f9_2⟩ := g2.cells
        obtain ⟨h3, d2⟩ := g2.put (i' := { { i with dst := p0.1 } with off := p2.2.1, src := p2.1 }) 4 (iV p2.1) rfl
        have a3 := (a2.trans b2).trans d2
        unfold iV at *
        clear b2 d2
        go_wp2_with fail
        first
          | exact bodyPost_end (v := .tuple #[]) (by simp [results, Tryz.results63, go_sem]) rfl (by simp only [q0, q1, q2, Option.bind_some, Option.bind_none, Option.map_none, Option.map_some, RdR, CelR]; exact ⟨(by first | rfl | trivial), h3, a3⟩)
          | exact bodyPost_ret (v := .tuple #[]) (by simp [results, Tryz.results63, go_sem]) rfl (by simp only [q0, q1, q2, Option.bind_some, Option.bind_none, Option.map_none, Option.map_some, RdR, CelR]; exact ⟨(by first | rfl | trivial), h3, a3⟩)
set_option maxHeartbeats 4000000 in
theorem put_any : Calls Tryz.prog 65 #[.pointer (some ⟨R, 0, none⟩)] w fun x w' => RdR R N K n w ((cellT l).bind fun q => (mustP [44] q.2.2).bind fun l => (secT { i with dst := q.1, off := q.2.1 } l).map fun p => (p.1, [], p.2)) (.tuple #[]) x w' := by
  have hB : B ≤ w.heap.size := by have := h.row.lt; omega
  have h0 := h
  have a0 := Ag.refl (Fr R N) w
  go_enter Tryz.func65, Tryz.ntmps65
  obtain ⟨⟨c0_0, c3_0, c4_0, c5_0, c6_0, c7_0, c9_0⟩, f3_0, f4_0, f5_0, f6_0, f7_0, f9_0⟩ := h0.cells
  have s0 := cell_any h0 (hv.fr a0 hN hR hB) hN hR
  go_wp2_with fail
  refine s0.mono ?_
  rintro x w1 hx
  clear c0_0 c3_0 c4_0 c5_0 c6_0 c7_0 c9_0 f3_0 f4_0 f5_0 f6_0 f7_0 f9_0
  cases q0 : cellT (l) with
  | none =>
    simp only [q0, CelR] at hx
    obtain ⟨rfl, b0⟩ := hx
    refine ⟨rfl, ?_⟩
    simp only [q0, Option.bind_some, Option.bind_none, Option.map_none, Option.map_some, RdR, CelR]
    exact ⟨rfl, a0.trans b0⟩
  | some p0 =>
    simp only [q0, CelR] at hx
    obtain ⟨rfl, g0, b0⟩ := hx
    obtain ⟨⟨c0_0, c3_0, c4_0, c5_0, c6_0, c7_0, c9_0⟩, f3_0, f4_0, f5_0, f6_0, f7_0, f9_0⟩ := g0.cells
    obtain ⟨h1, d0⟩ := g0.put (i' := { i with off := p0.2.1, dst := p0.1 }) 3 (iV p0.1) rfl
    have a1 := (a0.trans b0).trans d0
    unfold iV at *
    clear b0 d0
    obtain ⟨⟨c0_1, c3_1, c4_1, c5_1, c6_1, c7_1, c9_1⟩, f3_1, f4_1, f5_1, f6_1, f7_1, f9_1⟩ := h1.cells
    obtain ⟨g1, n1, s1⟩ := must_step h1 44 w1.heap.size (by simp [World.setCell])
    go_wp2_with fail
    refine s1.mono ?_
    rintro x w2 hx
    clear c0_1 c3_1 c4_1 c5_1 c6_1 c7_1 c9_1 f3_1 f4_1 f5_1 f6_1 f7_1 f9_1
    cases q1 : mustP [44] (p0.2.2) with
    | none =>
      simp only [q1, MusR] at hx
      obtain ⟨rfl, b1⟩ := hx
      refine ⟨rfl, ?_⟩
      simp only [q0, q1, Option.bind_some, Option.bind_none, Option.map_none, Option.map_some, RdR, CelR]
      exact ⟨rfl, (a1.trans n1).trans (b1.mono fun _ _ q => q.1)⟩
    | some p1 =>
      simp only [q1, MusR] at hx
      obtain ⟨⟨u1, rfl⟩, r1, b1⟩ := hx
      obtain ⟨h2, e1⟩ := g1.rowed r1 b1
      have a2 := (a1.trans n1).trans e1
      clear b1 r1 e1 n1 g1
      obtain ⟨⟨c0_2, c3_2, c4_2, c5_2, c6_2, c7_2, c9_2⟩, f3_2, f4_2, f5_2, f6_2, f7_2, f9_2⟩ := h2.cells
      have s2 := second_any h2 (hv.fr a2 hN hR hB) hN hR
      go_wp2_with fail
      refine s2.mono ?_
      rintro x w3 hx
      clear c0_2 c3_2 c4_2 c5_2 c6_2 c7_2 c9_2 f3_2 f4_2 f5_2 f6_2 f7_2 f9_2
      cases q2 : secT ({ i with off := p0.2.1, dst := p0.1 }) (p1) with
      | none =>
        simp only [q2, Option.map_none, RdR] at hx
        obtain ⟨rfl, b2⟩ := hx
        refine ⟨rfl, ?_⟩
        simp only [q0, q1, q2, Option.bind_some, Option.bind_none, Option.map_none, Option.map_some, RdR, CelR]
        exact ⟨rfl, a2.trans b2⟩
      | some p2 =>
        simp only [q2, Option.map_some, RdR] at hx
        obtain ⟨rfl, h3, b2⟩ := hx
        have a3 := a2.trans b2
        clear b2
        go_wp2_with fail
        first
          | exact bodyPost_end (v := .tuple #[]) (by simp [results, Tryz.results65, go_sem]) rfl (by simp only [q0, q1, q2, Option.bind_some, Option.bind_none, Option.map_none, Option.map_some, RdR, CelR]; exact ⟨(by first | rfl | trivial), h3, a3⟩)
          | exact bodyPost_ret (v := .tuple #[]) (by simp [results, Tryz.results65, go_sem]) rfl (by simp only [q0, q1, q2, Option.bind_some, Option.bind_none, Option.map_none, Option.map_some, RdR, CelR]; exact ⟨(by first | rfl | trivial), h3, a3⟩)
end
end Go.Proofs.YtjebjninlejoeaaGreatDoor

