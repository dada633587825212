/- raft, the walk: asked, voted. raft, the walk: voted. -/
import Derived.Test.YthfofnfkopnbhaaW14
namespace Go.Proofs.Ythfofnfkopnbhaa
open Go.RowKit Go.Maps Go.ChangeMaps
set_option linter.unusedVariables false
set_option linter.unusedSimpArgs false
set_option linter.unusedSectionVars false
set_option maxRecDepth 100000

section
variable {w w' : World} {P : Nat} {n id : Int} {m : Pm} {R : Nat → Prop} {c c' : Cs En}
theorem last_peer (h : PeA w P n id m R c) : Calls Try.prog 23 #[.pointer (some ⟨m.lp, 0, none⟩)] w fun e w' => e = .returned (.tuple #[.int .i64 c.p.log.length, .int .i64 (lastT En.term c.p.log)]) ∧ Below w.heap.size w w' := by
  refine (Last_any 0 w m.lp c.p.log h.r.log.has).mono ?_
  rw [last_is]
  exact fun _ _ h => h
theorem none_ents (w : World) : Ents w (fun _ => False) none 0 [] := ⟨fun _ => rfl, Nat.le_refl _, by decide, fun h => absurd rfl h⟩
/-- send, of a letter without entries. -/
theorem send_bare (to : Int) (l : Lt En) (hl : l.ents = []) (h : PeA w P n id m R c) (ho : c.out.length ≤ 100000) :
    Calls Try.prog 38 #[.pointer (some ⟨P, 0, none⟩), .int .i64 to, ltA l 0 none 0] w fun e w' => e = .returned (.tuple #[]) ∧ Went P n id m R (sendP id c to l) w w' := by
  refine (send_any to l none 0 (fun _ => False) h (by rw [hl]; exact none_ents w) (fun _ h => h.elim) ho).mono ?_
  rintro e w2 ⟨rfl, lv', g', ds', hP, hO, hA⟩
  exact ⟨rfl, _, _, hP, hO, fun b hb => hb.elim .inl (fun h => h.elim), hA⟩
/-- Went, from a world ahead of which the peer's own object alone was written. -/
theorem Went.from {w1 : World} (ha : Ag (fun b => b ≠ P) w w1) (k : Went P n id m R c' w1 w') : Went P n id m R c' w w' :=
  Went.seq (fun b hb => .inl hb) (fun b hb => .inl hb) ⟨ha.os, ha.tape, ha.output, ha.size, fun b hb hno => ha.block b hb (fun e => hno (.inl e))⟩ k
def AskYes (l : Lt En) (c : Cs En) : Prop := c.p.role = 1 ∧ (c.p.V = 0 ∨ c.p.V = l.src) ∧ (lastT En.term c.p.log < l.was ∨ l.was = lastT En.term c.p.log ∧ (c.p.log.length : Int) ≤ l.idx)
theorem asked_yes {l : Lt En} (h : AskYes l c) : askedP En.term id l c = sendP id { c with p := { c.p with V := l.src, waited := 0 } } l.src { (lt0 2 : Lt En) with ok := true } := by
  obtain ⟨h1, h2, h3⟩ := h
  have q : (decide (c.p.role = 1) && (decide (c.p.V = 0) || decide (c.p.V = l.src)) && (decide (lastT En.term c.p.log < l.was) || (decide (l.was = lastT En.term c.p.log) && decide ((c.p.log.length : Int) ≤ l.idx)))) = true := by
    simp only [Bool.and_eq_true, Bool.or_eq_true, decide_eq_true_eq]
    exact ⟨⟨h1, h2⟩, h3⟩
  unfold askedP
  simp only [q, if_true]
theorem asked_no {l : Lt En} (h : ¬ AskYes l c) : askedP En.term id l c = sendP id c l.src { (lt0 2 : Lt En) with ok := false } := by
  have q : (decide (c.p.role = 1) && (decide (c.p.V = 0) || decide (c.p.V = l.src)) && (decide (lastT En.term c.p.log < l.was) || (decide (l.was = lastT En.term c.p.log) && decide ((c.p.log.length : Int) ≤ l.idx)))) = false := by
    rw [Bool.eq_false_iff]
    intro hq
    simp only [Bool.and_eq_true, Bool.or_eq_true, decide_eq_true_eq] at hq
    exact h ⟨hq.1.1, hq.1.2, hq.2⟩
  unfold askedP
  simp only [q]
  rfl
set_option maxHeartbeats 4000000 in
theorem asked_any (l : Lt En) (ver : Int) (A : Option Addr) (d : Nat) (h : PeA w P n id m R c) (hk : Ok n id c) (ho : c.out.length ≤ 20000) :
    Calls Try.prog 52 #[.pointer (some ⟨P, 0, none⟩), ltA l ver A d] w fun e w' => e = .returned (.tuple #[]) ∧ Went P n id m R (askedP En.term id l c) w w' := by
  have hP := h.plt
  have hbA : Below w.heap.size w (w.alloc (.cells (ltV l ver A d).toArray 40)) := (Below.refl _ _).alloc (Nat.le_refl _) _
  have hlb : Bk (w.alloc (.cells (ltV l ver A d).toArray 40)) w.heap.size 40 (ltV l ver A d) := Bk.new w _ _
  have hAA := h.below hbA
  have hPn : P ≠ w.heap.size := by omega
  have hPn' : w.heap.size ≠ P := by omega
  obtain ⟨c0, c1, c2, c3, c4, c5, c6, c7, c8, c9, c10, c11, c12, c13⟩ := hAA.cells
  have HAA := Lib.hid hAA
  have HLB := Lib.hid hlb
  have HBA := Lib.hid hbA
  clear h hP hbA hlb hAA
  go_enter Try.func52, Try.ntmps52
  unfold ltA
  simp only [ltV] at HAA HLB HBA c0 c1 c2 c3 c4 c5 c6 c7 c8 c9 c10 c11 c12 c13 ⊢
  go_wp2_with fail
  generalize (w.alloc (.cells #[.int .u8 l.kind, .int .i64 l.src, .int .i64 l.dst, .int .i64 l.term, .int .i64 l.idx, .int .i64 l.was, .bool l.ok, .int .i64 l.com, .int .i64 ver, .slice A l.ents.length d] 40)) = wa at *
  refine (last_peer HAA.out).mono ?_
  rintro _ w1 ⟨rfl, hb1⟩
  have HA1 := Lib.hid (HAA.out.below hb1)
  have HLB1 := Lib.hid (HLB.out.below hb1 HLB.out.lt)
  have HB1 := Lib.hid (HBA.out.trans (hb1.mono HBA.out.size))
  clear c0 c1 c2 c3 c4 c5 c6 c7 c8 c9 c10 c11 c12 c13 hb1 HAA HLB HBA
  obtain ⟨c0, c1, c2, c3, c4, c5, c6, c7, c8, c9, c10, c11, c12, c13⟩ := HA1.out.cells
  obtain ⟨l0, l1, l2, l3, l4, l5, l6, l7, l8, l9⟩ := cells10 HLB1.out
  have f1 := HA1.out.frozen 1
  have f10 := HA1.out.frozen 10
  have HQ : Hid (∀ k, PeA (w1.drewN k) P n id m R c) := Lib.hid (fun k => HA1.out.below ⟨rfl, rfl, rfl, Nat.le_refl _, fun _ _ => rfl⟩)
  have HYES := Lib.hid (asked_yes (id := id) (l := l) (c := c))
  have HNO := Lib.hid (asked_no (id := id) (l := l) (c := c))
  by_cases b1 : lastT En.term c.p.log < l.was
  · have d1 : decide (lastT En.term c.p.log < l.was) = true := decide_eq_true b1
    have B1 := Lib.hid b1
    clear b1
    by_cases r1 : c.p.role = 1
    · have e1 : (c.p.role == 1) = true := by simp [r1]
      have R1 := Lib.hid r1
      clear r1
      by_cases v0 : c.p.V = 0
      · have e2 : (c.p.V == 0) = true := by simp [v0]
        have V0 := Lib.hid v0
        clear v0
        go_wp2_with fail
        go_quiet (fail)
        have HS := send_bare l.src { (lt0 2 : Lt En) with ok := true } rfl (w := ((w1.drewN nq).setCell ⟨P, 1, none⟩ (.int .i64 l.src)).setCell ⟨P, 10, none⟩ (.int .i64 0)) (c := { c with p := { c.p with V := l.src, waited := 0 } }) (((HQ.out nq).set (c' := { c with p := { c.p with V := l.src } }) 1 _ rfl ((HQ.out nq).r.re rfl rfl rfl rfl rfl (HQ.out nq).r.vn (HQ.out nq).r.keys)).set 10 _ rfl (PeR.re (c := c) ((HQ.out nq).r.ag ((Ag.refl _ _).setCell (p := ⟨P, 1, none⟩) (fun _ hK => hK.elim (fun h => h.2 rfl) (fun h => ((HQ.out nq).r.rr _ h).2 (.inl rfl))) _)) rfl rfl rfl rfl rfl (HQ.out nq).r.vn (HQ.out nq).r.keys)) (Nat.le_trans ho (by decide))
        simp only [ltA, ltV, lt0, List.length_nil] at HS
        go_wp2_with fail
        refine HS.mono ?_
        rintro _ w2 ⟨rfl, hw⟩
        clear HS
        go_wp2_with fail
        go_end0
        refine ⟨rfl, ?_⟩
        rw [HYES.out ⟨R1.out, .inl V0.out, .inl B1.out⟩]
        refine Went.from ?_ hw
        exact ((((Ag.of_below _ HB1.out).trans ⟨rfl, rfl, rfl, Nat.le_refl _, fun _ _ _ => rfl⟩ : Ag (fun b => b ≠ P) w (w1.drewN nq)).setCell (p := ⟨P, 1, none⟩) (fun _ hK => hK rfl) _).setCell (p := ⟨P, 10, none⟩) (fun _ hK => hK rfl) _)
      · have e2 : (c.p.V == 0) = false := by simp [v0]
        have V0 := Lib.hid v0
        clear v0
        by_cases vs : c.p.V = l.src
        · have e3 : (c.p.V == l.src) = true := by simp [vs]
          have VS := Lib.hid vs
          clear vs
          go_wp2_with fail
          go_quiet (fail)
          have HS := send_bare l.src { (lt0 2 : Lt En) with ok := true } rfl (w := ((w1.drewN nq).setCell ⟨P, 1, none⟩ (.int .i64 l.src)).setCell ⟨P, 10, none⟩ (.int .i64 0)) (c := { c with p := { c.p with V := l.src, waited := 0 } }) (((HQ.out nq).set (c' := { c with p := { c.p with V := l.src } }) 1 _ rfl ((HQ.out nq).r.re rfl rfl rfl rfl rfl (HQ.out nq).r.vn (HQ.out nq).r.keys)).set 10 _ rfl (PeR.re (c := c) ((HQ.out nq).r.ag ((Ag.refl _ _).setCell (p := ⟨P, 1, none⟩) (fun _ hK => hK.elim (fun h => h.2 rfl) (fun h => ((HQ.out nq).r.rr _ h).2 (.inl rfl))) _)) rfl rfl rfl rfl rfl (HQ.out nq).r.vn (HQ.out nq).r.keys)) (Nat.le_trans ho (by decide))
          simp only [ltA, ltV, lt0, List.length_nil] at HS
          go_wp2_with fail
          refine HS.mono ?_
          rintro _ w2 ⟨rfl, hw⟩
          clear HS
          go_wp2_with fail
          go_end0
          refine ⟨rfl, ?_⟩
          rw [HYES.out ⟨R1.out, .inr VS.out, .inl B1.out⟩]
          refine Went.from ?_ hw
          exact ((((Ag.of_below _ HB1.out).trans ⟨rfl, rfl, rfl, Nat.le_refl _, fun _ _ _ => rfl⟩ : Ag (fun b => b ≠ P) w (w1.drewN nq)).setCell (p := ⟨P, 1, none⟩) (fun _ hK => hK rfl) _).setCell (p := ⟨P, 10, none⟩) (fun _ hK => hK rfl) _)
        · have e3 : (c.p.V == l.src) = false := by simp [vs]
          have VS := Lib.hid vs
          clear vs
          go_wp2_with fail
          go_quiet (fail)
          have HS := send_bare l.src { (lt0 2 : Lt En) with ok := false } rfl (HQ.out nq) (Nat.le_trans ho (by decide))
          simp only [ltA, ltV, lt0, List.length_nil] at HS
          go_wp2_with fail
          refine HS.mono ?_
          rintro _ w2 ⟨rfl, hw⟩
          clear HS
          go_wp2_with fail
          go_end0
          refine ⟨rfl, ?_⟩
          rw [HNO.out (fun h => h.2.1.elim V0.out VS.out)]
          exact Went.from (w1 := w1.drewN nq) ((Ag.of_below _ HB1.out).trans ⟨rfl, rfl, rfl, Nat.le_refl _, fun _ _ _ => rfl⟩) hw
    · have e1 : (c.p.role == 1) = false := by simp [r1]
      have R1 := Lib.hid r1
      clear r1
      go_wp2_with fail
      go_quiet (fail)
      have HS := send_bare l.src { (lt0 2 : Lt En) with ok := false } rfl (HQ.out nq) (Nat.le_trans ho (by decide))
      simp only [ltA, ltV, lt0, List.length_nil] at HS
      go_wp2_with fail
      refine HS.mono ?_
      rintro _ w2 ⟨rfl, hw⟩
      clear HS
      go_wp2_with fail
      go_end0
      refine ⟨rfl, ?_⟩
      rw [HNO.out (fun h => R1.out h.1)]
      exact Went.from (w1 := w1.drewN nq) ((Ag.of_below _ HB1.out).trans ⟨rfl, rfl, rfl, Nat.le_refl _, fun _ _ _ => rfl⟩) hw
  · have d1 : decide (lastT En.term c.p.log < l.was) = false := decide_eq_false b1
    have B1 := Lib.hid b1
    clear b1
    by_cases b2 : l.was = lastT En.term c.p.log
    · have d2 : (l.was == lastT En.term c.p.log) = true := by simp [b2]
      have B2 := Lib.hid b2
      clear b2
      by_cases b3 : (c.p.log.length : Int) ≤ l.idx
      · have d3 : decide ((c.p.log.length : Int) ≤ l.idx) = true := decide_eq_true b3
        have B3 := Lib.hid b3
        clear b3
        by_cases r1 : c.p.role = 1
        · have e1 : (c.p.role == 1) = true := by simp [r1]
          have R1 := Lib.hid r1
          clear r1
          by_cases v0 : c.p.V = 0
          · have e2 : (c.p.V == 0) = true := by simp [v0]
            have V0 := Lib.hid v0
            clear v0
            go_wp2_with fail
            go_quiet (fail)
            have HS := send_bare l.src { (lt0 2 : Lt En) with ok := true } rfl (w := ((w1.drewN nq).setCell ⟨P, 1, none⟩ (.int .i64 l.src)).setCell ⟨P, 10, none⟩ (.int .i64 0)) (c := { c with p := { c.p with V := l.src, waited := 0 } }) (((HQ.out nq).set (c' := { c with p := { c.p with V := l.src } }) 1 _ rfl ((HQ.out nq).r.re rfl rfl rfl rfl rfl (HQ.out nq).r.vn (HQ.out nq).r.keys)).set 10 _ rfl (PeR.re (c := c) ((HQ.out nq).r.ag ((Ag.refl _ _).setCell (p := ⟨P, 1, none⟩) (fun _ hK => hK.elim (fun h => h.2 rfl) (fun h => ((HQ.out nq).r.rr _ h).2 (.inl rfl))) _)) rfl rfl rfl rfl rfl (HQ.out nq).r.vn (HQ.out nq).r.keys)) (Nat.le_trans ho (by decide))
            simp only [ltA, ltV, lt0, List.length_nil] at HS
            go_wp2_with fail
            refine HS.mono ?_
            rintro _ w2 ⟨rfl, hw⟩
            clear HS
            go_wp2_with fail
            go_end0
            refine ⟨rfl, ?_⟩
            rw [HYES.out ⟨R1.out, .inl V0.out, .inr ⟨B2.out, B3.out⟩⟩]
            refine Went.from ?_ hw
            exact ((((Ag.of_below _ HB1.out).trans ⟨rfl, rfl, rfl, Nat.le_refl _, fun _ _ _ => rfl⟩ : Ag (fun b => b ≠ P) w (w1.drewN nq)).setCell (p := ⟨P, 1, none⟩) (fun _ hK => hK rfl) _).setCell (p := ⟨P, 10, none⟩) (fun _ hK => hK rfl) _)
          · have e2 : (c.p.V == 0) = false := by simp [v0]
            have V0 := Lib.hid v0
            clear v0
            by_cases vs : c.p.V = l.src
            · have e3 : (c.p.V == l.src) = true := by simp [vs]
              have VS := Lib.hid vs
              clear vs
              go_wp2_with fail
              go_quiet (fail)
              have HS := send_bare l.src { (lt0 2 : Lt En) with ok := true } rfl (w := ((w1.drewN nq).setCell ⟨P, 1, none⟩ (.int .i64 l.src)).setCell ⟨P, 10, none⟩ (.int .i64 0)) (c := { c with p := { c.p with V := l.src, waited := 0 } }) (((HQ.out nq).set (c' := { c with p := { c.p with V := l.src } }) 1 _ rfl ((HQ.out nq).r.re rfl rfl rfl rfl rfl (HQ.out nq).r.vn (HQ.out nq).r.keys)).set 10 _ rfl (PeR.re (c := c) ((HQ.out nq).r.ag ((Ag.refl _ _).setCell (p := ⟨P, 1, none⟩) (fun _ hK => hK.elim (fun h => h.2 rfl) (fun h => ((HQ.out nq).r.rr _ h).2 (.inl rfl))) _)) rfl rfl rfl rfl rfl (HQ.out nq).r.vn (HQ.out nq).r.keys)) (Nat.le_trans ho (by decide))
              simp only [ltA, ltV, lt0, List.length_nil] at HS
              go_wp2_with fail
              refine HS.mono ?_
              rintro _ w2 ⟨rfl, hw⟩
              clear HS
              go_wp2_with fail
              go_end0
              refine ⟨rfl, ?_⟩
              rw [HYES.out ⟨R1.out, .inr VS.out, .inr ⟨B2.out, B3.out⟩⟩]
              refine Went.from ?_ hw
              exact ((((Ag.of_below _ HB1.out).trans ⟨rfl, rfl, rfl, Nat.le_refl _, fun _ _ _ => rfl⟩ : Ag (fun b => b ≠ P) w (w1.drewN nq)).setCell (p := ⟨P, 1, none⟩) (fun _ hK => hK rfl) _).setCell (p := ⟨P, 10, none⟩) (fun _ hK => hK rfl) _)
            · have e3 : (c.p.V == l.src) = false := by simp [vs]
              have VS := Lib.hid vs
              clear vs
              go_wp2_with fail
              go_quiet (fail)
              have HS := send_bare l.src { (lt0 2 : Lt En) with ok := false } rfl (HQ.out nq) (Nat.le_trans ho (by decide))
              simp only [ltA, ltV, lt0, List.length_nil] at HS
              go_wp2_with fail
              refine HS.mono ?_
              rintro _ w2 ⟨rfl, hw⟩
              clear HS
              go_wp2_with fail
              go_end0
              refine ⟨rfl, ?_⟩
              rw [HNO.out (fun h => h.2.1.elim V0.out VS.out)]
              exact Went.from (w1 := w1.drewN nq) ((Ag.of_below _ HB1.out).trans ⟨rfl, rfl, rfl, Nat.le_refl _, fun _ _ _ => rfl⟩) hw
        · have e1 : (c.p.role == 1) = false := by simp [r1]
          have R1 := Lib.hid r1
          clear r1
          go_wp2_with fail
          go_quiet (fail)
          have HS := send_bare l.src { (lt0 2 : Lt En) with ok := false } rfl (HQ.out nq) (Nat.le_trans ho (by decide))
          simp only [ltA, ltV, lt0, List.length_nil] at HS
          go_wp2_with fail
          refine HS.mono ?_
          rintro _ w2 ⟨rfl, hw⟩
          clear HS
          go_wp2_with fail
          go_end0
          refine ⟨rfl, ?_⟩
          rw [HNO.out (fun h => R1.out h.1)]
          exact Went.from (w1 := w1.drewN nq) ((Ag.of_below _ HB1.out).trans ⟨rfl, rfl, rfl, Nat.le_refl _, fun _ _ _ => rfl⟩) hw
      · have d3 : decide ((c.p.log.length : Int) ≤ l.idx) = false := decide_eq_false b3
        have B3 := Lib.hid b3
        clear b3
        by_cases r1 : c.p.role = 1
        · have e1 : (c.p.role == 1) = true := by simp [r1]
          have R1 := Lib.hid r1
          clear r1
          by_cases v0 : c.p.V = 0
          · have e2 : (c.p.V == 0) = true := by simp [v0]
            clear v0
            go_wp2_with fail
            go_quiet (fail)
            have HS := send_bare l.src { (lt0 2 : Lt En) with ok := false } rfl (HQ.out nq) (Nat.le_trans ho (by decide))
            simp only [ltA, ltV, lt0, List.length_nil] at HS
            go_wp2_with fail
            refine HS.mono ?_
            rintro _ w2 ⟨rfl, hw⟩
            clear HS
            go_wp2_with fail
            go_end0
            refine ⟨rfl, ?_⟩
            rw [HNO.out (fun h => h.2.2.elim (fun q => by have := B1.out; omega) (fun h => by have := B3.out; have := h.2; omega))]
            exact Went.from (w1 := w1.drewN nq) ((Ag.of_below _ HB1.out).trans ⟨rfl, rfl, rfl, Nat.le_refl _, fun _ _ _ => rfl⟩) hw
          · have e2 : (c.p.V == 0) = false := by simp [v0]
            clear v0
            by_cases vs : c.p.V = l.src
            · have e3 : (c.p.V == l.src) = true := by simp [vs]
              clear vs
              go_wp2_with fail
              go_quiet (fail)
              have HS := send_bare l.src { (lt0 2 : Lt En) with ok := false } rfl (HQ.out nq) (Nat.le_trans ho (by decide))
              simp only [ltA, ltV, lt0, List.length_nil] at HS
              go_wp2_with fail
              refine HS.mono ?_
              rintro _ w2 ⟨rfl, hw⟩
              clear HS
              go_wp2_with fail
              go_end0
              refine ⟨rfl, ?_⟩
              rw [HNO.out (fun h => h.2.2.elim (fun q => by have := B1.out; omega) (fun h => by have := B3.out; have := h.2; omega))]
              exact Went.from (w1 := w1.drewN nq) ((Ag.of_below _ HB1.out).trans ⟨rfl, rfl, rfl, Nat.le_refl _, fun _ _ _ => rfl⟩) hw
            · have e3 : (c.p.V == l.src) = false := by simp [vs]
              clear vs
              go_wp2_with fail
              go_quiet (fail)
              have HS := send_bare l.src { (lt0 2 : Lt En) with ok := false } rfl (HQ.out nq) (Nat.le_trans ho (by decide))
              simp only [ltA, ltV, lt0, List.length_nil] at HS
              go_wp2_with fail
              refine HS.mono ?_
              rintro _ w2 ⟨rfl, hw⟩
              clear HS
              go_wp2_with fail
              go_end0
              refine ⟨rfl, ?_⟩
              rw [HNO.out (fun h => h.2.2.elim (fun q => by have := B1.out; omega) (fun h => by have := B3.out; have := h.2; omega))]
              exact Went.from (w1 := w1.drewN nq) ((Ag.of_below _ HB1.out).trans ⟨rfl, rfl, rfl, Nat.le_refl _, fun _ _ _ => rfl⟩) hw
        · have e1 : (c.p.role == 1) = false := by simp [r1]
          go_wp2_with fail
          go_quiet (fail)
          have HS := send_bare l.src { (lt0 2 : Lt En) with ok := false } rfl (HQ.out nq) (Nat.le_trans ho (by decide))
          simp only [ltA, ltV, lt0, List.length_nil] at HS
          go_wp2_with fail
          refine HS.mono ?_
          rintro _ w2 ⟨rfl, hw⟩
          clear HS
          go_wp2_with fail
          go_end0
          refine ⟨rfl, ?_⟩
          rw [HNO.out (fun h => h.2.2.elim (fun q => by have := B1.out; omega) (fun h => by have := B3.out; have := h.2; omega))]
          exact Went.from (w1 := w1.drewN nq) ((Ag.of_below _ HB1.out).trans ⟨rfl, rfl, rfl, Nat.le_refl _, fun _ _ _ => rfl⟩) hw
    · have d2 : (l.was == lastT En.term c.p.log) = false := by simp [b2]
      have B2 := Lib.hid b2
      clear b2
      by_cases r1 : c.p.role = 1
      · have e1 : (c.p.role == 1) = true := by simp [r1]
        have R1 := Lib.hid r1
        clear r1
        by_cases v0 : c.p.V = 0
        · have e2 : (c.p.V == 0) = true := by simp [v0]
          clear v0
          go_wp2_with fail
          go_quiet (fail)
          have HS := send_bare l.src { (lt0 2 : Lt En) with ok := false } rfl (HQ.out nq) (Nat.le_trans ho (by decide))
          simp only [ltA, ltV, lt0, List.length_nil] at HS
          go_wp2_with fail
          refine HS.mono ?_
          rintro _ w2 ⟨rfl, hw⟩
          clear HS
          go_wp2_with fail
          go_end0
          refine ⟨rfl, ?_⟩
          rw [HNO.out (fun h => h.2.2.elim (fun q => by have := B1.out; omega) (fun h => B2.out h.1))]
          exact Went.from (w1 := w1.drewN nq) ((Ag.of_below _ HB1.out).trans ⟨rfl, rfl, rfl, Nat.le_refl _, fun _ _ _ => rfl⟩) hw
        · have e2 : (c.p.V == 0) = false := by simp [v0]
          clear v0
          by_cases vs : c.p.V = l.src
          · have e3 : (c.p.V == l.src) = true := by simp [vs]
            clear vs
            go_wp2_with fail
            go_quiet (fail)
            have HS := send_bare l.src { (lt0 2 : Lt En) with ok := false } rfl (HQ.out nq) (Nat.le_trans ho (by decide))
            simp only [ltA, ltV, lt0, List.length_nil] at HS
            go_wp2_with fail
            refine HS.mono ?_
            rintro _ w2 ⟨rfl, hw⟩
            clear HS
            go_wp2_with fail
            go_end0
            refine ⟨rfl, ?_⟩
            rw [HNO.out (fun h => h.2.2.elim (fun q => by have := B1.out; omega) (fun h => B2.out h.1))]
            exact Went.from (w1 := w1.drewN nq) ((Ag.of_below _ HB1.out).trans ⟨rfl, rfl, rfl, Nat.le_refl _, fun _ _ _ => rfl⟩) hw
          · have e3 : (c.p.V == l.src) = false := by simp [vs]
            clear vs
            go_wp2_with fail
            go_quiet (fail)
            have HS := send_bare l.src { (lt0 2 : Lt En) with ok := false } rfl (HQ.out nq) (Nat.le_trans ho (by decide))
            simp only [ltA, ltV, lt0, List.length_nil] at HS
            go_wp2_with fail
            refine HS.mono ?_
            rintro _ w2 ⟨rfl, hw⟩
            clear HS
            go_wp2_with fail
            go_end0
            refine ⟨rfl, ?_⟩
            rw [HNO.out (fun h => h.2.2.elim (fun q => by have := B1.out; omega) (fun h => B2.out h.1))]
            exact Went.from (w1 := w1.drewN nq) ((Ag.of_below _ HB1.out).trans ⟨rfl, rfl, rfl, Nat.le_refl _, fun _ _ _ => rfl⟩) hw
      · have e1 : (c.p.role == 1) = false := by simp [r1]
        go_wp2_with fail
        go_quiet (fail)
        have HS := send_bare l.src { (lt0 2 : Lt En) with ok := false } rfl (HQ.out nq) (Nat.le_trans ho (by decide))
        simp only [ltA, ltV, lt0, List.length_nil] at HS
        go_wp2_with fail
        refine HS.mono ?_
        rintro _ w2 ⟨rfl, hw⟩
        clear HS
        go_wp2_with fail
        go_end0
        refine ⟨rfl, ?_⟩
        rw [HNO.out (fun h => h.2.2.elim (fun q => by have := B1.out; omega) (fun h => B2.out h.1))]
        exact Went.from (w1 := w1.drewN nq) ((Ag.of_below _ HB1.out).trans ⟨rfl, rfl, rfl, Nat.le_refl _, fun _ _ _ => rfl⟩) hw
end
end Go.Proofs.Ythfofnfkopnbhaa
namespace Go.Proofs.Ythfofnfkopnbhaa
open Go.RowKit Go.Maps Go.ChangeMaps
set_option linter.unusedVariables false
set_option linter.unusedSimpArgs false
set_option linter.unusedSectionVars false
set_option maxRecDepth 100000

section
variable {w w' : World} {P : Nat} {n id : Int} {m : Pm} {R : Nat → Prop} {c c' : Cs En}
theorem VtAt.add {v : Value} {l : List Int} (h : VtAt w v l) {b : Nat} (hv : v = .map (some b)) {s : Int} (hk : -9223372036854775808 ≤ s ∧ s ≤ 9223372036854775807) :
    ∃ W', (Instr.mapUpdate 51 (.map (some b)) (.int .i64 s) (.bool true)).run Try.prog w = .ok () W' ∧ Ag (fun k => k ≠ b) w W' ∧ VtAt W' v (addV s l) := by
  rcases h with ⟨h1, _⟩ | ⟨b', es, ck, h1, h2, h3, h4⟩
  · rw [h1] at hv; cases hv
  · rw [h1] at hv
    injection hv with hv
    injection hv with hv
    subst hv
    unfold addV
    by_cases hs : s ∈ l
    · rw [if_pos hs]
      obtain ⟨j, hj⟩ := List.mem_iff_getElem?.1 hs
      have h5 := congrArg (fun l => l[j]?) h4
      simp only [List.getElem?_map, hj, Option.map_some] at h5
      cases he : es[j]? with
      | none => rw [he] at h5; cases h5
      | some e =>
        rw [he] at h5
        simp at h5
        refine ⟨_, run_upd_some (Maps.int_keyed Try.underlying3) Try.underlying51 h2 h3 (intKey s hk) he h5.1 _, sbk_ag _ _ _, .inr ⟨_, _, _, h1, sbk_same h2, h3.set he _, ?_⟩⟩
        have hse : es.set j { e with val := .bool true } = es := by
          have : ({ e with val := .bool true } : MapEntry) = e := by cases e; simp at h5; simp [h5.2]
          rw [this]
          exact List.ext_getElem? fun i => by
            rw [List.getElem?_set]
            split
            · next q => subst q; rw [if_pos (List.getElem?_eq_some_iff.1 he).1]; exact he.symm
            · rfl
        rw [hse]
        exact h4
    · rw [if_neg hs]
      have hno : ∀ e ∈ es, e.key ≠ .int .i64 s := by
        intro e he hke
        have h5 : (e.key, e.val) ∈ l.map fun k => (Value.int .i64 k, Value.bool true) := by rw [← h4]; exact List.mem_map.2 ⟨e, he, rfl⟩
        obtain ⟨p, hp, q⟩ := List.mem_map.1 h5
        injection q with q1 q2
        rw [hke] at q1
        injection q1 with _ q1
        exact hs (q1 ▸ hp)
      exact ⟨_, run_upd_none (Maps.int_keyed Try.underlying3) Try.underlying51 h2 h3 (intKey s hk) hno _, sbk_ag _ _ _, .inr ⟨_, _, _, h1, sbk_same h2, h3.push (intKey s hk) hno _, by simp [h4]⟩⟩
/-- The votes alone have changed. -/
theorem PeA.voteTo (h : PeA w P n id m R c) {b : Nat} (hv : m.vv = .map (some b)) {l : List Int} (ha : Ag (fun k => k ≠ b) w w') (hvt : VtAt w' m.vv l) : PeA w' P n id m R { c with p := { c.p with votes := l } } := by
  have hr := h.r
  have ho : m.Oth b := .inr (.inl hv)
  obtain ⟨es, ck, hmap⟩ := hr.vt.at_ hv
  have hlb : m.lv.ownBlock ≠ some b := fun e => by
    obtain ⟨_, cur, q⟩ := hr.row.own' e
    rw [hmap] at q; cases q
  have hko : ∀ k, m.Own P k → k ≠ b → w'.heap[k]? = w.heap[k]? := fun k hk hne => ha.block k (hr.own k hk) hne
  have hsb : ∀ k g, (k, g) ∈ m.M → g ≠ b := fun k g hg e => by
    have := hr.srv k g hg
    unfold Bk at this
    rw [e, hmap] at this; cases this
  exact ⟨h.obj.ag ha (fun e => (hr.lX b ho).2 e.symm), ⟨hr.log.keep (ha.mono fun k _ hL e => (hr.lX b ho).1 (e ▸ hL)), hr.row.keep (fun e => hko _ (.inr (.inr (.inl e))) (fun e' => hlb (e' ▸ e))), hr.dlen, fun i l d hi hd => (hr.ents i l d hi hd).keep (fun k hR => ha.block k (hr.rr k hR).1 (fun e => (hr.rr k hR).2 (e ▸ .inr (.inr ho)))) (fun _ h => h), hvt, hr.vn, hr.of.keep (fun k e => hko k (.inr (.inr (.inr (.inr (.inl e))))) (fun e' => hr.vo b hv (e' ▸ e))), fun k g hg => (hr.srv k g hg).ag ha (hsb k g hg), hr.keys, fun k hk => Nat.lt_of_lt_of_le (hr.own k hk) ha.size, fun k hk => ⟨Nat.lt_of_lt_of_le (hr.rr k hk).1 ha.size, (hr.rr k hk).2⟩, hr.lP, hr.lX, hr.vo, hr.mnd⟩⟩
set_option maxHeartbeats 2000000 in
theorem voted_any (l : Lt En) (ver : Int) (A : Option Addr) (d : Nat) (h : PeA w P n id m R c) (hk : Ok n id c) (ho : c.out.length ≤ 20000) (hs1 : 1 ≤ l.src) (hs2 : l.src ≤ 7) :
    Calls Try.prog 53 #[.pointer (some ⟨P, 0, none⟩), ltA l ver A d] w fun e w' => e = .returned (.tuple #[]) ∧ Went P n id m R (votedP En.term noopE n id l c) w w' := by
  have hP := h.plt
  have hbA : Below w.heap.size w (w.alloc (.cells (ltV l ver A d).toArray 40)) := (Below.refl _ _).alloc (Nat.le_refl _) _
  have hlb : Bk (w.alloc (.cells (ltV l ver A d).toArray 40)) w.heap.size 40 (ltV l ver A d) := Bk.new w _ _
  have hAA := h.below hbA
  obtain ⟨c0, c1, c2, c3, c4, c5, c6, c7, c8, c9, c10, c11, c12, c13⟩ := hAA.cells
  obtain ⟨l0, l1, l2, l3, l4, l5, l6, l7, l8, l9⟩ := cells10 hlb
  have HAA := Lib.hid hAA
  have HLB := Lib.hid hlb
  have HBA := Lib.hid hbA
  clear h hP hbA hlb hAA
  by_cases hy : c.p.role = 2 ∧ l.ok = true
  · obtain ⟨hr, hok⟩ := hy
    have e1 : (c.p.role == 2) = true := by simp [hr]
    obtain ⟨vb, hvv⟩ : ∃ vb, m.vv = .map (some vb) := by
      rcases HAA.out.r.vt with ⟨h1, _⟩ | ⟨b, _, _, h1, _⟩
      · exact absurd h1 (HAA.out.r.vn hr)
      · exact ⟨b, h1⟩
    rw [hvv] at c12
    obtain ⟨W', u1, u2, u3⟩ := (HAA.out.r.vt.keep (w' := (w.alloc (.cells (ltV l ver A d).toArray 40)).drew) (fun _ _ => rfl)).add hvv (s := l.src) (by omega)
    have hP' : PeA W' P n id m R { c with p := { c.p with votes := addV l.src c.p.votes } } := HAA.out.drew.voteTo hvv u2 u3
    have U1 := Lib.hid u1
    have hav : (addV l.src c.p.votes).length ≤ 100 := by
      have := hk.vt
      unfold addV
      split
      · omega
      · simp; omega
    have HW := win_any hP' ⟨(hk.lm (by omega)).len, hk.dat, Nat.le_trans ho (by decide)⟩ hk.len (Nat.le_trans ho (by decide)) hr hav hk.i1 hk.i2 hk.n7
    have HR := Lib.hid hr
    have HOK := Lib.hid hok
    have U2 := Lib.hid u2
    have HVV := Lib.hid hvv
    rw [hok] at l6
    clear u1 u2 u3 hP' hav hr hok hvv
    go_enter Try.func53, Try.ntmps53
    unfold ltA
    simp only [ltV] at HAA HLB HBA U1 U2 c0 c1 c2 c3 c4 c5 c6 c7 c8 c9 c10 c11 c12 c13 l0 l1 l2 l3 l4 l5 l6 l7 l8 l9 ⊢
    go_wp2_with fail
    generalize (w.alloc (.cells #[.int .u8 l.kind, .int .i64 l.src, .int .i64 l.dst, .int .i64 l.term, .int .i64 l.idx, .int .i64 l.was, .bool l.ok, .int .i64 l.com, .int .i64 ver, .slice A l.ents.length d] 40)) = wa at *
    have u1 := U1.out
    go_still_tail 6, (by kernel_rfl)
    go_wp2_with fail
    refine HW.mono ?_
    rintro _ w2 ⟨rfl, hw⟩
    clear HW
    go_wp2_with fail
    go_end0
    refine ⟨rfl, ?_⟩
    unfold votedP
    rw [if_pos ⟨HR.out, HOK.out⟩]
    refine Went.seq (fun b hb => .inl hb) (fun b hb => .inl hb) ?_ hw
    exact (Ag.of_below _ HBA.out.drew).trans (U2.out.mono (fun b _ hno e => hno (e ▸ .inr (.inr (.inr (.inl HVV.out))))))
  · have hend : Went P n id m R c w (w.alloc (.cells (ltV l ver A d).toArray 40)) := ⟨m, R, HAA.out, fun b hb => .inl hb, fun b hb => .inl hb, Ag.of_below _ HBA.out⟩
    have HE := Lib.hid hend
    have HY := Lib.hid hy
    by_cases hr : c.p.role = 2
    · have e1 : (c.p.role == 2) = true := by simp [hr]
      have hok : l.ok = false := by
        cases q : l.ok
        · rfl
        · exact absurd ⟨hr, q⟩ hy
      have l6' : (w.alloc (.cells (ltV l ver A d).toArray 40)).cell? ⟨w.heap.size, 6, none⟩ = some (.bool false) := by rw [l6, hok]
      clear l6 hok hr hy hend
      go_enter Try.func53, Try.ntmps53
      unfold ltA
      simp only [ltV] at HE c0 c1 c2 c3 c4 c5 c6 c7 c8 c9 c10 c11 c12 c13 l0 l1 l2 l3 l4 l5 l6' l7 l8 l9 ⊢
      go_wp2_with fail
      go_end0
      refine ⟨rfl, ?_⟩
      unfold votedP
      rw [if_neg HY.out]
      exact HE.out
    · have e1 : (c.p.role == 2) = false := by simp [hr]
      clear hr hy hend
      go_enter Try.func53, Try.ntmps53
      unfold ltA
      simp only [ltV] at HE c0 c1 c2 c3 c4 c5 c6 c7 c8 c9 c10 c11 c12 c13 l0 l1 l2 l3 l4 l5 l6 l7 l8 l9 ⊢
      go_wp2_with fail
      go_end0
      refine ⟨rfl, ?_⟩
      unfold votedP
      rw [if_neg HY.out]
      exact HE.out
end
end Go.Proofs.Ythfofnfkopnbhaa
