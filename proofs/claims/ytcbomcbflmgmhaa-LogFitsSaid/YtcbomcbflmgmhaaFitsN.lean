/- LogFits where Fit is not taken. -/
import Derived.Test.YtcbomcbflmgmhaaFitsB
import Derived.Deep.CutBlock
import Derived.Deep.CutRange
namespace Go.Proofs.Ytcbomcbflmgmhaa
open Go.RowKit
set_option linter.unusedVariables false

set_option maxRecDepth 100000 in
set_option maxHeartbeats 20000000 in
theorem LogFits_no (A1 A2 : Option Addr) (c1 c2 : Nat) (es ns : List En) (i t : Int) (w : World) (h1 : Ents w (fun b => b < w.heap.size) A1 c1 es) (h2 : Ents w (fun b => b < w.heap.size) A2 c2 ns) (hok : Hid (¬ (hasAt es i = true ∧ termAt es i = t))) :
    Calls Try.prog 3 #[.slice A1 es.length c1, .int .i64 i, .int .i64 t, .slice A2 ns.length c2] w fun x w' => x = .returned (.bool true) ∧ Below w.heap.size w w' := by
  go_enter Try.func3, Try.ntmps3
  go_wp2_with fail
  refine (awake_any w).mono ?_
  rintro _ w1 ⟨rfl, hB1⟩
  go_wp2_with fail
  refine (great_any (fun b => b < w.heap.size) A1 c1 es w1 (h1.below hB1)).mono ?_
  rintro _ w2 ⟨b1, rfl, ⟨q1, rfl⟩, hs1⟩
  cases b1 with
  | true =>
    go_wp2_with fail
    go_ret
    exact ⟨rfl, below_drewN hB1 _⟩
  | false =>
    have s1 := hs1 rfl
    clear hs1
    go_wp2_with fail
    refine (great_any (fun b => b < w.heap.size) A2 c2 ns _ (h2.below (below_drewN hB1 q1))).mono ?_
    rintro _ w2 ⟨b2, rfl, ⟨q2, rfl⟩, hs2⟩
    cases b2 with
    | true =>
      go_wp2_with fail
      go_ret
      exact ⟨rfl, below_drewN hB1 _⟩
    | false =>
      have s2 := hs2 rfl
      clear hs2
      have hB2 : Below w.heap.size w ((w1.drewN q1).drewN q2) := below_drewN (below_drewN hB1 _) _
      generalize (w1.drewN q1).drewN q2 = w2 at *
      clear hB1
      have l1 := s1.1
      have l2 := s2.1
      go_wp2_with fail
      refine (NewT_any A1 c1 es w2 ((h1.below hB2).keep (fun _ _ => rfl) (fun b hb => Nat.lt_of_lt_of_le hb hB2.size)) (by omega) s1.data).mono ?_
      rintro _ w3 ⟨p, rfl, hH3, hB3⟩
      go_wp2_with fail
      refine (TermT_any _ _ w3 p es i hH3).mono ?_
      rintro _ w4 ⟨rfl, hB4⟩
      have hH4 := hH3.below hB4
      have hw4 : Below w.heap.size w w4 := hB2.trans ((hB3.mono hB2.size).trans (hB4.mono (Nat.le_trans hB2.size hB3.size)))
      have z2 := hB2.size
      have z3 := hB3.size
      have z4 := hB4.size
      clear hH3 hB3 hB4
      go_wp2_with fail
      refine (FitT_any _ _ (fun b => b < w.heap.size) A2 c2 ns w4 p es i t hH4 (h2.below hw4) (fun b hb => ⟨by omega, .inl (by omega)⟩) z4 (by omega) s2.data).mono ?_
      rintro _ w5 ⟨last, chg, ok, es', rfl, hP, hH5, hA5⟩
      have hw5 : Below w.heap.size w w5 := hw4.trans ((hA5.low (by omega)).mono z2)
      obtain ⟨f1, f2⟩ := fit_small hP
      have hd' : ∀ e ∈ es', e.data.length ≤ 100000000 := fun e he => (f2 e he).elim (s1.data e) (s2.data e)
      clear f2
      go_wp2_with fail
      refine (FromT_any _ _ w5 p es' hH5 (by omega) hd').mono ?_
      rintro _ w6 ⟨A6, c6, rfl, hE6, hB6⟩
      have hH6 := hH5.below hB6
      have hw6 : Below w.heap.size w w6 := hw5.trans (hB6.mono hw5.size)
      have hes6 := h1.below hw6
      have hns6 := h2.below hw6
      have z5 := hw5.size
      have z45 := hA5.size
      have z56 := hB6.size
      clear hH5 hB6 hA5 hH4 hw4
      obtain ⟨rfl, rfl, rfl, rfl⟩ : last = 0 ∧ chg = 0 ∧ ok = false ∧ es' = es := by
        rcases hP with ⟨_, a, b, c, d⟩ | ⟨a, b, _⟩
        · exact ⟨a, b, c, d⟩
        · exact absurd ⟨a, b⟩ hok.out
      clear hP
      have hcon := SameEntries_any (fun b => w5.heap.size ≤ b ∧ b < w6.heap.size) (fun b => b < w.heap.size) A6 A1 c6 c1 es' es' w6 hE6 hes6 (fun b hb => hb.2) (fun b hb => by have := hw6.size; omega)
      rw [show decide (es' = es') = true from decide_eq_true rfl] at hcon
      have fin : ∀ w7, Below w6.heap.size w6 w7 → Below w.heap.size w w7 := fun w7 h => hw6.trans (h.mono hw6.size)
      by_cases k1 : hasAt es' i = true
      · have k2 : (termAt es' i == t) = false := by
          have := hok.out
          simp [k1] at this
          simp [this]
        have q : 0 ≤ i ∧ i ≤ es'.length := by simpa [hasAt] using k1
        obtain ⟨q1, q2⟩ := q
        have g1 : decide (0 ≤ i) = true := decide_eq_true q1
        have g2 : decide (i ≤ (es'.length : Int)) = true := decide_eq_true q2
        go_wp2_with fail
        refine hcon.mono ?_
        rintro _ w7 ⟨rfl, hB7⟩
        go_wp2_with fail
        go_ret
        exact ⟨rfl, fin _ hB7⟩
      · have k1' : hasAt es' i = false := by simpa using k1
        have q : ¬ (0 ≤ i ∧ i ≤ es'.length) := by simpa [hasAt] using k1
        clear k1
        by_cases q1 : 0 ≤ i
        · have g1 : decide (0 ≤ i) = true := decide_eq_true q1
          have g2 : decide (i ≤ (es'.length : Int)) = false := decide_eq_false (by omega)
          go_wp2_with fail
          refine hcon.mono ?_
          rintro _ w7 ⟨rfl, hB7⟩
          go_wp2_with fail
          go_ret
          exact ⟨rfl, fin _ hB7⟩
        · have g1 : decide (0 ≤ i) = false := decide_eq_false q1
          go_wp2_with fail
          refine hcon.mono ?_
          rintro _ w7 ⟨rfl, hB7⟩
          go_wp2_with fail
          go_ret
          exact ⟨rfl, fin _ hB7⟩
end Go.Proofs.Ytcbomcbflmgmhaa
