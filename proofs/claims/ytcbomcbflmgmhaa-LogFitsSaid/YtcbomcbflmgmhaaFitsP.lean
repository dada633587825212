/- LogFits where Fit turns something. -/
import Derived.Test.YtcbomcbflmgmhaaFitsB
import Derived.Deep.CutBlock
import Derived.Deep.CutRange
namespace Go.Proofs.Ytcbomcbflmgmhaa
open Go.RowKit
set_option linter.unusedVariables false

/-- What the first loop leaves. -/
def CutL (w6 : World) (cg m : Nat) (l : Value) (wx : World) : Prop := ∃ L : Nat, l = .int .i64 L ∧ (L = 0 ∨ (cg ≤ L ∧ L ≤ m)) ∧ Below w6.heap.size w6 wx
set_option maxRecDepth 100000 in
set_option maxHeartbeats 20000000 in
theorem LogFits_pos (A1 A2 : Option Addr) (c1 c2 : Nat) (es ns : List En) (i t : Int) (w : World) (h1 : Ents w (fun b => b < w.heap.size) A1 c1 es) (h2 : Ents w (fun b => b < w.heap.size) A2 c2 ns) (hok : Hid (hasAt es i = true ∧ termAt es i = t)) (hz : Hid ((fitR es ns i t).2.1 ≠ 0)) :
    Calls Try.prog 3 #[.slice A1 es.length c1, .int .i64 i, .int .i64 t, .slice A2 ns.length c2] w fun x w' => x = .returned (.bool true) ∧ Below w.heap.size w w' := by
  go_enter Try.func3, Try.ntmps3
  go_wp2_with fail
  refine (awake_any w).mono ?_
  rintro _ w1 ⟨rfl, hB1⟩
  go_wp2_with fail
  refine (great_any (fun b => b < w.heap.size) A1 c1 es w1 (h1.below hB1)).mono ?_
  rintro _ w2 ⟨b1, rfl, ⟨q1, rfl⟩, hs1⟩
  cases b1 with
  | true =>
    go_wp2_with fail
    go_ret
    exact ⟨rfl, below_drewN hB1 _⟩
  | false =>
    have s1 := hs1 rfl
    clear hs1
    go_wp2_with fail
    refine (great_any (fun b => b < w.heap.size) A2 c2 ns _ (h2.below (below_drewN hB1 q1))).mono ?_
    rintro _ w2 ⟨b2, rfl, ⟨q2, rfl⟩, hs2⟩
    cases b2 with
    | true =>
      go_wp2_with fail
      go_ret
      exact ⟨rfl, below_drewN hB1 _⟩
    | false =>
      have s2 := hs2 rfl
      clear hs2
      have hB2 : Below w.heap.size w ((w1.drewN q1).drewN q2) := below_drewN (below_drewN hB1 _) _
      generalize (w1.drewN q1).drewN q2 = w2 at *
      clear hB1
      have l1 := s1.1
      have l2 := s2.1
      go_wp2_with fail
      refine (NewT_any A1 c1 es w2 ((h1.below hB2).keep (fun _ _ => rfl) (fun b hb => Nat.lt_of_lt_of_le hb hB2.size)) (by omega) s1.data).mono ?_
      rintro _ w3 ⟨p, rfl, hH3, hB3⟩
      go_wp2_with fail
      refine (TermT_any _ _ w3 p es i hH3).mono ?_
      rintro _ w4 ⟨rfl, hB4⟩
      have hH4 := hH3.below hB4
      have hw4 : Below w.heap.size w w4 := hB2.trans ((hB3.mono hB2.size).trans (hB4.mono (Nat.le_trans hB2.size hB3.size)))
      have z2 := hB2.size
      have z3 := hB3.size
      have z4 := hB4.size
      clear hH3 hB3 hB4
      go_wp2_with fail
      refine (FitT_any _ _ (fun b => b < w.heap.size) A2 c2 ns w4 p es i t hH4 (h2.below hw4) (fun b hb => ⟨by omega, .inl (by omega)⟩) z4 (by omega) s2.data).mono ?_
      rintro _ w5 ⟨last, chg, ok, es', rfl, hP, hH5, hA5⟩
      have hw5 : Below w.heap.size w w5 := hw4.trans ((hA5.low (by omega)).mono z2)
      obtain ⟨f1, f2⟩ := fit_small hP
      have hd' : ∀ e ∈ es', e.data.length ≤ 100000000 := fun e he => (f2 e he).elim (s1.data e) (s2.data e)
      clear f2
      go_wp2_with fail
      refine (FromT_any _ _ w5 p es' hH5 (by omega) hd').mono ?_
      rintro _ w6 ⟨A6, c6, rfl, hE6, hB6⟩
      have hH6 := hH5.below hB6
      have hw6 : Below w.heap.size w w6 := hw5.trans (hB6.mono hw5.size)
      have hes6 := h1.below hw6
      have hns6 := h2.below hw6
      have z5 := hw5.size
      have z45 := hA5.size
      have z56 := hB6.size
      clear hH5 hB6 hA5 hH4 hw4
      obtain ⟨k1, k2⟩ := hok.out
      obtain ⟨n, rfl⟩ : ∃ n : Nat, i = n := ⟨i.toNat, by unfold hasAt at k1; simp at k1; omega⟩
      have hn : n ≤ es.length := by unfold hasAt at k1; simp at k1; omega
      have hPe := hP.eq
      obtain ⟨cg, rfl, rfl, rfl, hG⟩ := fit_good hP k1 k2
      have hcg : 0 < cg := by have := congrArg (fun x => x.2.1) hPe; simp only at this; apply Nat.pos_of_ne_zero; rintro rfl; exact hz.out this.symm
      clear hP hPe
      have t1 : (termAt es n == t) = true := by simp [k2]
      have hlen := hG.len
      have hbd := hG.bound
      have hle := hG.le
      have HG := Lib.hid hG
      have K2 := Lib.hid k2
      clear hG k2
      rw [k1]
      have HK1 := Lib.hid k1
      clear k1
      have g1 : decide ((0 : Int) ≤ (n : Int)) = true := decide_eq_true (by omega)
      have g2 : decide ((n : Int) ≤ (es.length : Int)) = true := decide_eq_true (by omega)
      have g3 : (((n : Int) + ns.length) != ((n : Int) + ns.length)) = false := by simp
      have g4 : decide ((es'.length : Int) < (n : Int) + ns.length) = false := decide_eq_false (by omega)
      have c0 : ((cg : Int) == 0) = false := by simp; omega
      have c0' : ((cg : Int) != 0) = true := by simp; omega
      have hsh : Hid (es'.length = n + ns.length) := HG.out.short (by omega)
      have c3 : ((es'.length : Int) != (n : Int) + ns.length) = false := by have := hsh.out; simp; omega
      go_upto_block 0 with (fail)
      have hbl := Below.refl w6.heap.size w6
      go_cut [16] from 114 to 141 (fun l wx => CutL w6 cg es'.length l wx)
      case first =>
        go_wp2_with fail
        go_loopw [16, 17] (fun l v wr => ∃ k L : Nat, k ≤ es'.length ∧ l = .int .i64 L ∧ v = .int .i64 k ∧ (L = 0 ∨ (cg ≤ L ∧ L ≤ es'.length)) ∧ Below w6.heap.size w6 wr) (fun _ v _ => es'.length - (intOf v).toNat)
        case atStart => exact ⟨0, 0, Nat.zero_le _, rfl, rfl, .inl rfl, hbl⟩
        case round =>
          obtain ⟨k, L, hk, rfl, rfl, hL, hbr⟩ := hrel
          have hE7 : Ents wr (fun b => w5.heap.size ≤ b ∧ b < w6.heap.size) A6 c6 es' := hE6.keep (fun b hb => hbr.block b hb.2) (fun _ h => h)
          have hw7 : Below w.heap.size w wr := hw6.trans (hbr.mono hw6.size)
          have hes7 := h1.below hw7
          have zr := hbr.size
          have z6 := hw6.size
          by_cases hlt : k < es'.length
          · rcases Nat.eq_zero_or_pos L with rfl | hL0
            · have d1 : decide ((k : Int) < (es'.length : Int)) = true := decide_eq_true (by omega)
              by_cases hke : k < es.length
              · have d2 : decide ((es.length : Int) ≤ (k : Int)) = false := decide_eq_false (by omega)
                obtain ⟨a, x, D, d, ea, ka, hx, ca, ra, la, ma⟩ := hE7.at_ hlt
                obtain ⟨a', y, D', d', ea', ka', hy, ca', ra', la', ma'⟩ := hes7.at_ hke
                subst ea ea'
                obtain ⟨a0, a1, a2, a3, a4, a5⟩ := en6 ca
                obtain ⟨b0, b1, b2, b3, b4, b5⟩ := en6 ca'
                clear ca ca'
                go_wp2_with fail
                refine wp_region_still_tail 13 (by kernel_rfl) (by kernel_rfl) ?_
                simp only [List.take_succ_cons, List.take_zero, List.drop_succ_cons, List.drop_zero]
                iterate 13 ((with_reducible (refine wpStill_step (fun K hK => ?_))); go_simp; (refine hK _ ?_); clear hK K)
                refine wpStill_nil ?_
                clear a0 a1 a2 a3 a4 a5 b0 b1 b2 b3 b4 b5
                go_wp2_with fail
                refine (SameEntry_any (fun b => w5.heap.size ≤ b ∧ b < w6.heap.size) (fun b => b < w.heap.size) x y D D' d d' wr.drew ra ra' (fun b h => by have := h.2; show b < wr.heap.size; omega) (fun b h => by show b < wr.heap.size; omega) (Nat.le_trans la (Nat.le_trans ma (by decide))) (Nat.le_trans la' (Nat.le_trans ma' (by decide)))).mono ?_
                rintro r w8 ⟨rfl, hb8⟩
                have hb9 : Below w6.heap.size w6 w8 := hbr.drew.trans (hb8.mono zr)
                clear hb8 hbr hE7 hes7 hw7 ra ra'
                by_cases hxy : x = y
                · rw [show decide (x = y) = true from decide_eq_true hxy]
                  clear hxy hx hy
                  go_wp2_with fail
                  go_roundw
                  case rel => exact ⟨k + 1, 0, by omega, rfl, by go_num, .inl rfl, hb9⟩
                  case measure => simp [intOf]; omega
                · have hcl : cg ≤ k + 1 := by
                    apply Nat.le_of_not_lt
                    intro hq
                    have h3 := (HG.out.ahead k (by omega) hq).2
                    rw [hx.out, hy.out] at h3
                    injection h3 with h3
                    exact hxy h3
                  rw [show decide (x = y) = false from decide_eq_false hxy]
                  clear hxy hx hy
                  go_wp2_with fail
                  go_roundw
                  case rel => exact ⟨k + 1, k + 1, by omega, by go_num, by go_num, .inr ⟨by omega, by omega⟩, hb9⟩
                  case measure => simp [intOf]; omega
              · have d2 : decide ((es.length : Int) ≤ (k : Int)) = true := decide_eq_true (by omega)
                have hcl : cg ≤ k + 1 := by
                  apply Nat.le_of_not_lt
                  intro hq
                  exact hke (HG.out.ahead k (by omega) hq).1
                clear hE7 hes7 hw7
                go_wp2_with fail
                refine wp_region_still_tail 13 (by kernel_rfl) (by kernel_rfl) ?_
                simp only [List.take_succ_cons, List.take_zero, List.drop_succ_cons, List.drop_zero]
                iterate 13 ((with_reducible (refine wpStill_step (fun K hK => ?_))); go_simp; (refine hK _ ?_); clear hK K)
                refine wpStill_nil ?_
                go_wp2_with fail
                go_roundw
                case rel => exact ⟨k + 1, k + 1, by omega, by go_num, by go_num, .inr ⟨by omega, by omega⟩, hbr.drew⟩
                case measure => simp [intOf]; omega
            · have d1 : decide ((k : Int) < (es'.length : Int)) = true := decide_eq_true (by omega)
              have d3 : ((L : Int) == 0) = false := by simp; omega
              go_wp2_with fail
              go_meet
              case rel => exact ⟨L, rfl, hL, hbr⟩
          · have d1 : decide ((k : Int) < (es'.length : Int)) = false := decide_eq_false (by omega)
            go_wp2_with fail
            go_meet
            case rel => exact ⟨L, rfl, hL, hbr⟩
      case rest =>
        obtain ⟨L, rfl, hL, hbr⟩ := hcut
        go_upto_region 21 with (fail)
        go_cut [169] from 142 to 169 (fun v wx => v = .bool false ∧ wx = wc)
        case first =>
          have d8' : decide (cg ≤ n) = false := decide_eq_false (by have := HG.out.after (by omega); omega)
          have d8 : decide ((cg : Int) ≤ (n : Int)) = false := decide_eq_false (by have := HG.out.after (by omega); omega)
          rcases Nat.eq_zero_or_pos L with rfl | hL0
          · go_wp2_with fail
            go_meet
            case rel => exact ⟨rfl, rfl⟩
          · have d3 : ((L : Int) == 0) = false := by simp; omega
            have d4 : ((L : Int) != 0) = true := by simp; omega
            have d7 : decide ((L : Int) < (cg : Int)) = false := decide_eq_false (by omega)
            have d7' : decide (L < cg) = false := decide_eq_false (by omega)
            go_wp2_with fail
            go_meet
            case rel => exact ⟨rfl, rfl⟩
        case rest =>
          obtain ⟨rfl, rfl⟩ := hcut
          go_wp2_with fail
          go_loopw [18] (fun v wr => ∃ k : Nat, k ≤ ns.length ∧ v = .int .i64 k ∧ Below w6.heap.size w6 wr) (fun v _ => ns.length - (intOf v).toNat)
          case atStart => exact ⟨0, Nat.zero_le _, rfl, hbr⟩
          case round =>
            clear hbr
            obtain ⟨j, hj, rfl, hbr⟩ := hrel
            have hE7 : Ents wr (fun b => w5.heap.size ≤ b ∧ b < w6.heap.size) A6 c6 es' := hE6.keep (fun b hb => hbr.block b hb.2) (fun _ h => h)
            have hw7 : Below w.heap.size w wr := hw6.trans (hbr.mono hw6.size)
            have hns7 := h2.below hw7
            have zr := hbr.size
            have z6 := hw6.size
            by_cases hjl : j < ns.length
            · have d5 : decide ((j : Int) < (ns.length : Int)) = true := decide_eq_true (by omega)
              obtain ⟨x, y, e1, e2, e3, e4⟩ := HG.out.fits j hjl
              obtain ⟨a, x', D, d, ea, ka, hx, ca, ra, la, ma⟩ := hE7.at_ (k := n + j) (by omega)
              obtain ⟨a', y', D', d', ea', ka', hy, ca', ra', la', ma'⟩ := hns7.at_ hjl
              subst ea ea'
              have h3 := hx.out
              rw [e1] at h3
              injection h3 with h3
              have h4 := hy.out
              rw [e2] at h4
              injection h4 with h4
              subst h3 h4
              obtain ⟨a0, a1, a2, a3, a4, a5⟩ := en6 ca
              obtain ⟨b0, b1, b2, b3, b4, b5⟩ := en6 ca'
              clear ca ca' hx hy e1 e2
              have t5 : (x.term != y.term) = false := by simp [e3]
              have E4 := Lib.hid e4
              clear e3 e4
              have i1 : (0 : Int) ≤ (n : Int) + j := by omega
              have i2 : (n : Int) + j < es'.length := by omega
              have i3 : ((n : Int) + j).toNat = n + j := by omega
              have v1 : IntKind.i64.wrap ((n : Int) + j) = (n : Int) + j := IntWalk.i64_in _ (by omega)
              have v2 : IntKind.i64.wrap ((n : Int) + j + 1) = (n : Int) + j + 1 := IntWalk.i64_in _ (by omega)
              by_cases hcj : cg ≤ n + j + 1
              · have d6 : decide ((cg : Int) ≤ (n : Int) + j + 1) = true := decide_eq_true (by omega)
                have hxy : Hid (x = y) := E4.out (by omega) hcj
                go_wp2_with fail
                refine wp_region_still_tail 35 (by kernel_rfl) (by kernel_rfl) ?_
                simp only [List.take_succ_cons, List.take_zero, List.drop_succ_cons, List.drop_zero]
                iterate 35 ((with_reducible (refine wpStill_step (fun K hK => ?_))); go_simp; (refine hK _ ?_); clear hK K)
                refine wpStill_nil ?_
                clear a0 a1 a2 a3 a4 a5 b0 b1 b2 b3 b4 b5 v1 v2
                go_wp2_with fail
                refine (SameEntry_any (fun b => w5.heap.size ≤ b ∧ b < w6.heap.size) (fun b => b < w.heap.size) x y D D' d d' wr.drew ra ra' (fun b h => by have := h.2; show b < wr.heap.size; omega) (fun b h => by show b < wr.heap.size; omega) (Nat.le_trans la (Nat.le_trans ma (by decide))) (Nat.le_trans la' (Nat.le_trans ma' (by decide)))).mono ?_
                rintro r w8 ⟨rfl, hb8⟩
                rw [show decide (x = y) = true from decide_eq_true hxy.out]
                have hb9 : Below w6.heap.size w6 w8 := hbr.drew.trans (hb8.mono zr)
                clear hb8 hbr hE7 hns7 hw7 ra ra'
                go_wp2_with fail
                go_roundw
                case rel => exact ⟨j + 1, by omega, by go_num, hb9⟩
                case measure => simp [intOf]; omega
              · have d6 : decide ((cg : Int) ≤ (n : Int) + j + 1) = false := decide_eq_false (by omega)
                go_wp2_with fail
                refine wp_region_still_tail 35 (by kernel_rfl) (by kernel_rfl) ?_
                simp only [List.take_succ_cons, List.take_zero, List.drop_succ_cons, List.drop_zero]
                iterate 35 ((with_reducible (refine wpStill_step (fun K hK => ?_))); go_simp; (refine hK _ ?_); clear hK K)
                refine wpStill_nil ?_
                clear v1 v2
                go_wp2_with fail
                go_roundw
                case rel => exact ⟨j + 1, by omega, by go_num, hbr.drew⟩
                case measure => simp [intOf]; omega
            · have d5 : decide ((j : Int) < (ns.length : Int)) = false := decide_eq_false (by omega)
              have hHr := hH6.below hbr
              go_wp2_with fail
              refine (FitT_any _ _ (fun b => b < w.heap.size) A2 c2 ns wr p es' n t hHr hns7 (fun b hb => ⟨by omega, .inl (by omega)⟩) (by omega) (by omega) s2.data).mono ?_
              rintro _ w8 ⟨last, chg, ok, es2, rfl, hP, hH8, hA8⟩
              obtain ⟨rfl, rfl, rfl, rfl⟩ := HG.out.again _ _ _ _ hP
              have hw8 : Below w2.heap.size wr w8 := hA8.low (by omega)
              have hww8 : Below w.heap.size w w8 := hw7.trans (hw8.mono z2)
              have z8 := hA8.size
              have hE8 : Ents w8 (fun b => w5.heap.size ≤ b ∧ b < w6.heap.size) A6 c6 es2 := hE7.keep (fun b hb => hA8.block b (by have := hb.2; omega) (.inr (by have := hb.1; omega))) (fun _ h => h)
              clear hP hHr hA8 hE7 hns7 hw7 hw8
              go_wp2_with fail
              refine (FromT_any _ _ w8 p es2 hH8 (by omega) hd').mono ?_
              rintro _ w9 ⟨A9, c9, rfl, hE9, hB9⟩
              have z9 := hB9.size
              have hfin := SameEntries_any (fun b => w8.heap.size ≤ b ∧ b < w9.heap.size) (fun b => w5.heap.size ≤ b ∧ b < w6.heap.size) A9 A6 c9 c6 es2 es2 w9 hE9 (hE8.keep (fun b hb => hB9.block b (by have := hb.2; omega)) (fun _ h => h)) (fun b hb => hb.2) (fun b hb => by have := hb.2; omega)
              rw [show decide (es2 = es2) = true from decide_eq_true rfl] at hfin
              go_wp2_with fail
              refine hfin.mono ?_
              rintro _ wz ⟨rfl, hBz⟩
              have hend := hww8.trans ((hB9.mono hww8.size).trans (hBz.mono (Nat.le_trans hww8.size z9)))
              go_wp2_with fail
              go_ret
              exact ⟨rfl, hend⟩
end Go.Proofs.Ytcbomcbflmgmhaa
