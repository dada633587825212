/- raft, the walk: ate. -/
import Derived.Test.YthfofnfkopnbhaaW17
namespace Go.Proofs.Ythfofnfkopnbhaa
open Go.RowKit Go.Maps Go.ChangeMaps
set_option linter.unusedVariables false
set_option linter.unusedSimpArgs false
set_option linter.unusedSectionVars false
set_option maxRecDepth 100000

theorem run_look_nil {P : Program} {t kt et : TypeId} {w : World} {x : Value} {l : Lit} (K : Keyed P kt) (ht : P.underlying t = some (.map kt et)) (hx : keyOf P kt x = some l) {z : Value} (hz : (zeroValue et).run P w = .ok z w) :
    (Instr.lookup t (.map none) x false).run P w = .ok z w := by
  have hf := find_none (es := []) (clock := 0) (w := w) K (EsOk.nil P kt) hx (fun e he => by cases he)
  simp [Instr.lookup, run_underlying ht, K.check w _ hx, hf, hz, Result.andThen]
section
variable {w w' : World} {P : Nat} {n id : Int} {m : Pm} {R : Nat → Prop} {c c' : Cs En}
theorem OfAt.looks {v : Value} {M : List (Int × Nat)} (h : OfAt w v M) (s : Int) (hk : -9223372036854775808 ≤ s ∧ s ≤ 9223372036854775807) : ∃ u, ∀ w', (∀ b, v = .map (some b) → w'.heap[b]? = w.heap[b]?) → (Instr.lookup 52 v (.int .i64 s) false).run Try.prog w' = .ok u w' := by
  have hz : ∀ w : World, (zeroValue 91).run Try.prog w = .ok (.pointer none) w := fun w => by kernel_rfl
  rcases h with ⟨rfl, _⟩ | ⟨b, es, ck, rfl, h2, h3, h4⟩
  · exact ⟨.pointer none, fun w' _ => run_look_nil (Maps.int_keyed Try.underlying3) Try.underlying52 (intKey s hk) (hz w')⟩
  · by_cases hs : ∃ e ∈ es, e.key = .int .i64 s
    · obtain ⟨e, he, hek⟩ := hs
      obtain ⟨j, hj⟩ := List.mem_iff_getElem?.1 he
      exact ⟨e.val, fun w' hw => run_look_some (Maps.int_keyed Try.underlying3) Try.underlying52 ((hw b rfl).trans h2) h3 (intKey s hk) hj hek⟩
    · exact ⟨.pointer none, fun w' hw => run_look_none (Maps.int_keyed Try.underlying3) Try.underlying52 ((hw b rfl).trans h2) h3 (intKey s hk) (fun e he hke => hs ⟨e, he, hke⟩) (hz w')⟩
theorem settle_q (c : Cs En) : (settleP En.term n id c).p.log = c.p.log ∧ (settleP En.term n id c).out = c.out ∧ (settleP En.term n id c).p.role = c.p.role ∧ (settleP En.term n id c).p.next = c.p.next ∧ (settleP En.term n id c).p.mat = c.p.mat := by
  unfold settleP
  simp only
  split <;> exact ⟨rfl, rfl, rfl, rfl, rfl⟩
/-- A server's answer moves what is known of it. -/
def MoveUp (l : Lt En) (c : Cs En) : Prop := l.ok = true ∧ c.p.mat l.src < l.idx ∧ l.idx ≤ (c.p.log.length : Int)
def MoveDown (l : Lt En) (c : Cs En) : Prop := l.ok = false ∧ c.p.mat l.src ≤ l.idx ∧ l.idx < c.p.next l.src - 1
theorem ate_no {l : Lt En} (hr : c.p.role = 3) (h1 : ¬ MoveUp l c) (h2 : ¬ MoveDown l c) : ateP En.term n id l c = c := by
  unfold MoveUp at h1
  unfold MoveDown at h2
  unfold ateP
  rw [if_neg (fun h => h hr), if_neg h1, if_neg h2]
theorem ate_down {l : Lt En} (hr : c.p.role = 3) (h2 : MoveDown l c) : ateP En.term n id l c = feedP En.term id { c with p := { c.p with next := setF c.p.next l.src (l.idx + 1) } } l.src := by
  unfold MoveDown at h2
  unfold ateP
  rw [if_neg (fun h => h hr), if_neg (fun h => by have := h.1; rw [h2.1] at this; cases this), if_pos h2]
def upC (l : Lt En) (c : Cs En) : Cs En := { c with p := { c.p with mat := setF c.p.mat l.src l.idx, next := setF c.p.next l.src (max (c.p.next l.src) (l.idx + 1)) } }
theorem ate_up {l : Lt En} (hr : c.p.role = 3) (h1 : MoveUp l c) : ateP En.term n id l c = if (settleP En.term n id (upC l c)).p.next l.src ≤ ((settleP En.term n id (upC l c)).p.log.length : Int) then feedP En.term id (settleP En.term n id (upC l c)) l.src else settleP En.term n id (upC l c) := by
  unfold MoveUp at h1
  unfold ateP
  rw [if_neg (fun h => h hr), if_pos h1]
  rfl
set_option maxHeartbeats 4000000 in
theorem ate_any (l : Lt En) (ver : Int) (A : Option Addr) (d : Nat) (h : PeA w P n id m R c) (hk : Ok n id c) (ho : c.out.length ≤ 20000) (hs1 : 1 ≤ l.src) (hs2 : l.src ≤ n) (hs3 : l.src ≠ id) (hmat : c.p.role = 3 → 0 ≤ c.p.mat l.src) :
    Calls Try.prog 55 #[.pointer (some ⟨P, 0, none⟩), ltA l ver A d] w fun e w' => e = .returned (.tuple #[]) ∧ Went P n id m R (ateP En.term n id l c) w w' := by
  have hP := h.plt
  have hn7 := hk.n7
  have hbA : Below w.heap.size w (w.alloc (.cells (ltV l ver A d).toArray 40)) := (Below.refl _ _).alloc (Nat.le_refl _) _
  have hlb : Bk (w.alloc (.cells (ltV l ver A d).toArray 40)) w.heap.size 40 (ltV l ver A d) := Bk.new w _ _
  have hAA := h.below hbA
  have hPn : P ≠ w.heap.size := by omega
  have hPn' : w.heap.size ≠ P := by omega
  have hown : ∀ b, m.Own P b → b < w.heap.size := h.r.own
  obtain ⟨c0, c1, c2, c3, c4, c5, c6, c7, c8, c9, c10, c11, c12, c13⟩ := hAA.cells
  obtain ⟨l0, l1, l2, l3, l4, l5, l6, l7, l8, l9⟩ := cells10 hlb
  have HOWN := Lib.hid hown
  have HAA := Lib.hid hAA
  have HLB := Lib.hid hlb
  have HBA := Lib.hid hbA
  have HK := Lib.hid hk
  have HMAT := Lib.hid hmat
  clear h hP hbA hlb hAA hown hk hmat
  by_cases hr : c.p.role = 3
  · have e1 : (c.p.role != 3) = false := by simp [hr]
    obtain ⟨b, hb⟩ := HAA.out.r.key hr hs1 hs2 hs3
    have hlk : ∀ k, (Instr.lookup 52 m.ov (.int .i64 l.src) false).run Try.prog ((w.alloc (.cells (ltV l ver A d).toArray 40)).drewN k) = .ok (.pointer (some ⟨b, 0, none⟩)) ((w.alloc (.cells (ltV l ver A d).toArray 40)).drewN k) := fun k => (HAA.out.r.of.keep (w' := (w.alloc (.cells (ltV l ver A d).toArray 40)).drewN k) (fun _ _ => rfl)).look hb
    have HR := Lib.hid hr
    clear hr
    go_enter Try.func55, Try.ntmps55
    unfold ltA
    simp only [ltV] at HAA HLB HBA hlk c0 c1 c2 c3 c4 c5 c6 c7 c8 c9 c10 c11 c12 c13 l0 l1 l2 l3 l4 l5 l6 l7 l8 l9 ⊢
    go_wp2_with fail
    generalize (w.alloc (.cells #[.int .u8 l.kind, .int .i64 l.src, .int .i64 l.dst, .int .i64 l.term, .int .i64 l.idx, .int .i64 l.was, .bool l.ok, .int .i64 l.com, .int .i64 ver, .slice A l.ents.length d] 40)) = wa at *
    go_quiet (fail)
    have hbq : Below wa.heap.size wa (wa.drewN nq) := ⟨rfl, rfl, rfl, Nat.le_refl _, fun _ _ => rfl⟩
    have HL := last_peer (HAA.out.below hbq)
    have HB1 := Lib.hid (HBA.out.trans (hbq.mono HBA.out.size))
    have HLB1 := Lib.hid (HLB.out.below hbq HLB.out.lt)
    clear hbq
    go_wp2_with fail
    refine HL.mono ?_
    rintro _ w1 ⟨rfl, hb1⟩
    clear HL c0 c1 c2 c3 c4 c5 c6 c7 c8 c9 c10 c11 c12 c13 l0 l1 l2 l3 l4 l5 l6 l7 l8 l9 hlk
    have HB2 := Lib.hid (HB1.out.trans (hb1.mono HB1.out.size))
    have HLB2 := Lib.hid (HLB1.out.below hb1 HLB1.out.lt)
    have hA2 := (HAA.out.below (w' := wa.drewN nq) ⟨rfl, rfl, rfl, Nat.le_refl _, fun _ _ => rfl⟩).below hb1
    obtain ⟨c0, c1, c2, c3, c4, c5, c6, c7, c8, c9, c10, c11, c12, c13⟩ := hA2.cells
    obtain ⟨l0, l1, l2, l3, l4, l5, l6, l7, l8, l9⟩ := cells10 HLB2.out
    have b0 : w1.cell? ⟨b, 0, none⟩ = some (.int .i64 (c.p.next l.src)) := (hA2.r.srv l.src b hb).cell 0
    have b1 : w1.cell? ⟨b, 1, none⟩ = some (.int .i64 (c.p.mat l.src)) := (hA2.r.srv l.src b hb).cell 1
    have g0 := (hA2.r.srv l.src b hb).frozen 0
    have g1 := (hA2.r.srv l.src b hb).frozen 1
    have HA2 := Lib.hid hA2
    have HNO := Lib.hid (ate_no (n := n) (id := id) (l := l) HR.out)
    have HE : Hid (∀ W, Below w1.heap.size w1 W → Went P n id m R c w W) := Lib.hid (fun W hW => ⟨m, R, HA2.out.below hW, fun b hb => .inl hb, fun b hb => .inl hb, (Ag.of_below _ HB2.out).trans (Ag.of_below (fun b => ¬ m.Own P b) hW)⟩)
    clear hb1 hA2
    go_wp2_with fail
    have hnx := HK.out.nx HR.out l.src
    have hlen := HK.out.len
    have hm0 := HMAT.out HR.out
    obtain ⟨nx1, nx2⟩ := hnx
    rcases hok : l.ok with _ | _
    · rw [hok] at l6
      have HOK := Lib.hid hok
      clear hok
      by_cases u1 : c.p.mat l.src ≤ l.idx
      · have d1 : decide (c.p.mat l.src ≤ l.idx) = true := decide_eq_true u1
        by_cases u2 : l.idx < c.p.next l.src - 1
        · have d2 : decide (l.idx < c.p.next l.src - 1) = true := decide_eq_true u2
          go_quiet (fail)
          revert nq
          intro k1
          go_wp2_with fail
          go_quiet (fail)
          revert nq
          intro k2
          have hB3 : Below w1.heap.size w1 (w1.drewN (k1 + k2)) := ⟨rfl, rfl, rfl, Nat.le_refl _, fun _ _ => rfl⟩
          have hP3 := HA2.out.below hB3
          have hbo : b < w.heap.size := HOWN.out b (.inr (.inr (.inr (.inr (.inr ⟨_, hb⟩)))))
          have hP4 := hP3.nextTo hb (l.idx + 1)
          have hlb4 := (HLB2.out.below hB3 HLB2.out.lt).far (p := ⟨b, 0, none⟩) (by show w.heap.size ≠ b; omega) (.int .i64 (l.idx + 1))
          have m1 : ((w1.drewN (k1 + k2)).setCell ⟨b, 0, none⟩ (.int .i64 (l.idx + 1))).cell? ⟨w.heap.size, 1, none⟩ = some (.int .i64 l.src) := hlb4.cell 1
          have hsf : setF c.p.next l.src (l.idx + 1) l.src = l.idx + 1 := by unfold setF; rw [if_pos rfl]
          have HF := feed_any hP4 hb ⟨(HK.out.lm (by omega)).len, HK.out.dat, Nat.le_trans ho (by decide)⟩ (by show 1 ≤ setF c.p.next l.src (l.idx + 1) l.src; rw [hsf]; omega) (by show setF c.p.next l.src (l.idx + 1) l.src ≤ _; rw [hsf]; show l.idx + 1 ≤ (c.p.log.length : Int) + 1; omega)
          have hq := ate_down (n := n) (id := id) (l := l) HR.out ⟨HOK.out, u1, u2⟩
          have hA4 : Ag (fun b => ¬ m.Own P b) w ((w1.drewN (k1 + k2)).setCell ⟨b, 0, none⟩ (.int .i64 (l.idx + 1))) := ((Ag.of_below _ HB2.out).trans ⟨rfl, rfl, rfl, Nat.le_refl _, fun _ _ _ => rfl⟩ : Ag (fun b => ¬ m.Own P b) w (w1.drewN (k1 + k2))).setCell (p := ⟨b, 0, none⟩) (fun _ hK => hK (.inr (.inr (.inr (.inr (.inr ⟨_, hb⟩)))))) _
          have HQ := Lib.hid hq
          have HA4 := Lib.hid hA4
          clear hP3 hP4 hlb4 hsf hq hA4 hB3
          go_wp2_with fail
          refine HF.mono ?_
          rintro _ w5 ⟨rfl, hw⟩
          clear HF
          go_wp2_with fail
          go_end0
          refine ⟨rfl, ?_⟩
          rw [HQ.out]
          exact Went.seq (fun b hb => .inl hb) (fun b hb => .inl hb) HA4.out hw
        · have d2 : decide (l.idx < c.p.next l.src - 1) = false := decide_eq_false u2
          go_quiet (fail)
          go_wp2_with fail
          go_quiet (fail)
          go_wp2_with fail
          go_end0
          refine ⟨rfl, ?_⟩
          rw [HNO.out (fun h => by have := h.1; rw [HOK.out] at this; cases this) (fun h => by have := h.2.2; omega)]
          exact HE.out _ ⟨rfl, rfl, rfl, Nat.le_refl _, fun _ _ => rfl⟩
      · have d1 : decide (c.p.mat l.src ≤ l.idx) = false := decide_eq_false u1
        go_quiet (fail)
        go_wp2_with fail
        go_quiet (fail)
        go_wp2_with fail
        go_end0
        refine ⟨rfl, ?_⟩
        rw [HNO.out (fun h => by have := h.1; rw [HOK.out] at this; cases this) (fun h => by have := h.2.1; omega)]
        exact HE.out _ ⟨rfl, rfl, rfl, Nat.le_refl _, fun _ _ => rfl⟩
    · rw [hok] at l6
      have HOK := Lib.hid hok
      clear hok
      by_cases u1 : c.p.mat l.src < l.idx
      · have d1 : decide (c.p.mat l.src < l.idx) = true := decide_eq_true u1
        by_cases u2 : l.idx ≤ (c.p.log.length : Int)
        · have d2 : decide (l.idx ≤ (c.p.log.length : Int)) = true := decide_eq_true u2
          have hbo : b < w.heap.size := HOWN.out b (.inr (.inr (.inr (.inr (.inr ⟨_, hb⟩)))))
          have hbn : b ≠ w.heap.size := by omega
          have hbn' : w.heap.size ≠ b := by omega
          have w1i : IntKind.i64.wrap (l.idx + 1) = l.idx + 1 := IntWalk.i64_in _ (by omega)
          go_quiet (fail)
          revert nq
          intro k1
          go_wp2_with fail
          go_region
          have hB3 : Below w1.heap.size w1 (w1.drewN (k1 + 1)) := ⟨rfl, rfl, rfl, Nat.le_refl _, fun _ _ => rfl⟩
          have hP4 : PeA (((w1.drewN (k1 + 1)).setCell ⟨b, 1, none⟩ (.int .i64 l.idx)).setCell ⟨b, 0, none⟩ (.int .i64 (max (c.p.next l.src) (l.idx + 1)))) P n id m R (upC l c) := ((HA2.out.below hB3).matTo hb l.idx).nextTo hb (max (c.p.next l.src) (l.idx + 1))
          have hlb4 := ((HLB2.out.below hB3 HLB2.out.lt).far (p := ⟨b, 1, none⟩) hbn' (.int .i64 l.idx)).far (p := ⟨b, 0, none⟩) hbn' (.int .i64 (max (c.p.next l.src) (l.idx + 1)))
          have hA4 : Ag (fun b => ¬ m.Own P b) w (((w1.drewN (k1 + 1)).setCell ⟨b, 1, none⟩ (.int .i64 l.idx)).setCell ⟨b, 0, none⟩ (.int .i64 (max (c.p.next l.src) (l.idx + 1)))) := (((Ag.of_below _ HB2.out).trans ⟨rfl, rfl, rfl, Nat.le_refl _, fun _ _ _ => rfl⟩ : Ag (fun b => ¬ m.Own P b) w (w1.drewN (k1 + 1))).setCell (p := ⟨b, 1, none⟩) (fun _ hK => hK (.inr (.inr (.inr (.inr (.inr ⟨_, hb⟩)))))) _).setCell (p := ⟨b, 0, none⟩) (fun _ hK => hK (.inr (.inr (.inr (.inr (.inr ⟨_, hb⟩)))))) _
          generalize (((w1.drewN (k1 + 1)).setCell ⟨b, 1, none⟩ (.int .i64 l.idx)).setCell ⟨b, 0, none⟩ (.int .i64 (max (c.p.next l.src) (l.idx + 1)))) = w4 at *
          clear c0 c1 c2 c3 c4 c5 c6 c7 c8 c9 c10 c11 c12 c13 l0 l1 l2 l3 l4 l5 l6 l7 l8 l9 b0 b1 g0 g1 hB3
          have hS := settle_any hP4 ⟨(HK.out.lm (by omega)).len, HK.out.dat, Nat.le_trans ho (by decide)⟩ HR.out HK.out.i1 HK.out.i2 HK.out.n7
          have hup := ate_up (n := n) (id := id) (l := l) HR.out ⟨HOK.out, u1, u2⟩
          have hnx4 : (upC l c).p.next l.src = max (c.p.next l.src) (l.idx + 1) := by show setF _ _ _ _ = _; unfold setF; rw [if_pos rfl]
          obtain ⟨s1, s2, s3, s4, s5⟩ := settle_q (n := n) (id := id) (upC l c)
          rw [← s4] at hnx4
          have s1 : (settleP En.term n id (upC l c)).p.log = c.p.log := s1
          have s2 : (settleP En.term n id (upC l c)).out = c.out := s2
          have HLB4 := Lib.hid hlb4
          have HA4 := Lib.hid hA4
          clear hP4 s3 s4 s5 hlb4 hA4
          generalize settleP En.term n id (upC l c) = cs at *
          have S1 := Lib.hid s1
          have S2 := Lib.hid s2
          have HUP := Lib.hid hup
          clear s1 s2 hup
          go_wp2_with fail
          refine hS.mono ?_
          rintro _ w5 ⟨rfl, hP5, hA5⟩
          have HLB5 := Lib.hid (HLB4.out.ag hA5 hPn')
          have m1 : w5.cell? ⟨w.heap.size, 1, none⟩ = some (.int .i64 l.src) := HLB5.out.cell 1
          have b0 : w5.cell? ⟨b, 0, none⟩ = some (.int .i64 (max (c.p.next l.src) (l.idx + 1))) := by rw [(hP5.r.srv l.src b hb).cell 0]; show some (Value.int .i64 (cs.p.next l.src)) = _; rw [hnx4]
          have HNX := Lib.hid hnx4
          have HP5 := Lib.hid hP5
          have HA5 : Hid (Ag (fun b => ¬ m.Own P b) w w5) := Lib.hid (HA4.out.trans (hA5.mono (fun b _ hno e => hno (.inl e))))
          clear hS hP5 hA5 hnx4
          by_cases u3 : max (c.p.next l.src) (l.idx + 1) ≤ (c.p.log.length : Int)
          · have d3 : decide (max (c.p.next l.src) (l.idx + 1) ≤ (c.p.log.length : Int)) = true := decide_eq_true u3
            have HF := feed_any HP5.out hb ⟨by rw [S1.out]; omega, by rw [S1.out]; exact HK.out.dat, by rw [S2.out]; omega⟩ (by rw [HNX.out]; omega) (by rw [HNX.out, S1.out]; omega)
            have U3 := Lib.hid u3
            clear u3
            go_wp2_with fail
            refine HF.mono ?_
            rintro _ w6 ⟨rfl, hw⟩
            clear HF
            go_wp2_with fail
            go_end0
            refine ⟨rfl, ?_⟩
            rw [HUP.out, if_pos (by rw [HNX.out, S1.out]; exact U3.out)]
            exact Went.seq (fun b hb => .inl hb) (fun b hb => .inl hb) HA5.out hw
          · have d3 : decide (max (c.p.next l.src) (l.idx + 1) ≤ (c.p.log.length : Int)) = false := decide_eq_false u3
            have U3 := Lib.hid u3
            clear u3
            go_wp2_with fail
            go_end0
            refine ⟨rfl, ?_⟩
            rw [HUP.out, if_neg (by rw [HNX.out, S1.out]; have := U3.out; omega)]
            exact ⟨m, R, HP5.out, fun b hb => .inl hb, fun b hb => .inl hb, HA5.out⟩
        · have d2 : decide (l.idx ≤ (c.p.log.length : Int)) = false := decide_eq_false u2
          go_quiet (fail)
          go_wp2_with fail
          go_quiet (fail)
          go_wp2_with fail
          go_end0
          refine ⟨rfl, ?_⟩
          rw [HNO.out (fun h => by have := h.2.2; omega) (fun h => by have := h.1; rw [HOK.out] at this; cases this)]
          exact HE.out _ ⟨rfl, rfl, rfl, Nat.le_refl _, fun _ _ => rfl⟩
      · have d1 : decide (c.p.mat l.src < l.idx) = false := decide_eq_false u1
        go_quiet (fail)
        go_wp2_with fail
        go_quiet (fail)
        go_wp2_with fail
        go_end0
        refine ⟨rfl, ?_⟩
        rw [HNO.out (fun h => by have := h.2.1; omega) (fun h => by have := h.1; rw [HOK.out] at this; cases this)]
        exact HE.out _ ⟨rfl, rfl, rfl, Nat.le_refl _, fun _ _ => rfl⟩
  · have e1 : (c.p.role != 3) = true := by simp [hr]
    obtain ⟨u, hu⟩ := HAA.out.r.of.looks l.src (by omega)
    have hlk : ∀ k, (Instr.lookup 52 m.ov (.int .i64 l.src) false).run Try.prog ((w.alloc (.cells (ltV l ver A d).toArray 40)).drewN k) = .ok u ((w.alloc (.cells (ltV l ver A d).toArray 40)).drewN k) := fun k => hu _ (fun _ _ => rfl)
    have HR := Lib.hid hr
    clear hr hu
    go_enter Try.func55, Try.ntmps55
    unfold ltA
    simp only [ltV] at HAA HLB HBA hlk c0 c1 c2 c3 c4 c5 c6 c7 c8 c9 c10 c11 c12 c13 l0 l1 l2 l3 l4 l5 l6 l7 l8 l9 ⊢
    go_wp2_with fail
    generalize (w.alloc (.cells #[.int .u8 l.kind, .int .i64 l.src, .int .i64 l.dst, .int .i64 l.term, .int .i64 l.idx, .int .i64 l.was, .bool l.ok, .int .i64 l.com, .int .i64 ver, .slice A l.ents.length d] 40)) = wa at *
    go_quiet (fail)
    go_wp2_with fail
    refine bodyPost_ret (results_none rfl _ _ _) rfl ⟨rfl, ?_⟩
    unfold ateP
    rw [if_pos HR.out]
    exact ⟨m, R, HAA.out.below ⟨rfl, rfl, rfl, Nat.le_refl _, fun _ _ => rfl⟩, fun b hb => .inl hb, fun b hb => .inl hb, (Ag.of_below _ HBA.out).trans ⟨rfl, rfl, rfl, Nat.le_refl _, fun _ _ _ => rfl⟩⟩
end
end Go.Proofs.Ythfofnfkopnbhaa

