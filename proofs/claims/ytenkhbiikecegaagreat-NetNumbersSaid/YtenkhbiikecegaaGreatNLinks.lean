/- net: Links. -/
import Derived.Test.YtenkhbiikecegaaGreatNKeys
import Derived.Test.YtenkhbiikecegaaGreatNRowK
import Derived.Test.YtenkhbiikecegaaGreatNTake
import Derived.Maps.AppendAt
namespace Go.Proofs.YtenkhbiikecegaaGreat
open Go.RowKit Go.Maps Go.ChangeMaps Go.Shelf
attribute [local go_sem] Oper.semAt_some
set_option linter.unusedVariables false
set_option linter.unusedSimpArgs false
set_option maxRecDepth 100000

theorem info47 : (Tryz.prog.info? 38).map (fun i => (i.zero, i.size, i.bytes)) = some (some (.agg #[.int .i64 0, .int .i64 0]), 2, 16) := by kernel_rfl
/-- The numbers of links. -/
def lkP (xs : List LK) : List (Int × Int) := xs.map (·.1)
theorem bk_own {β : Type} (B : Nat) (t : TypeId) (cs : List Value) : Own (fun (s : β) W => Bk W B t cs) := fun s X Y row hs hg hrow =>
  (hg.block B hs.lt (fun e' => by obtain ⟨o, ho, hc⟩ := hrow B e'.symm; rw [show X.heap[B]? = _ from hs] at ho; cases ho; cases hc)).trans hs
theorem cell_two_new (w : World) (x y : Value) (t : TypeId) : ∀ j u, [x, y][j]? = some u → (w.alloc (.cells #[x, y] t)).cell? ((⟨w.heap.size, 0, none⟩ : Addr).add j) = some u := by
  intro j u hj
  have h := Bk.new w t [x, y]
  have hadd : (⟨w.heap.size, 0, none⟩ : Addr).add j = ⟨w.heap.size, j, none⟩ := by unfold Addr.add; split <;> simp_all
  rw [hadd, h.cell j, hj]
/-- A link's numbers, out of the value. -/
def decL : Value → Int × Int
  | .agg #[.int _ a, .int _ b] => (a, b)
  | _ => (0, 0)
/-- What is collected. -/
def LkI (n₀ : Nat) (w : World) (pre : List LK) (W : World) : Prop := (∃ v, Boxed W n₀ 36 v ∧ W.ownsRow n₀ 38 2 v pre.length (lkC (lkP pre)) ∧ True) ∧ Below n₀ w W
theorem lkI_own (n₀ B : Nat) (w : World) (h1 : n₀ ≤ w.heap.size) (h2 : n₀ ≤ B) : OwnFrom B (LkI n₀ w) :=
  OwnFrom.and (Own.from (holdsRow_own n₀ n₀ 36 38 2 (fun pre : List LK => pre.length) (fun pre => lkC (lkP pre)) (fun _ _ => True)) B) (ownFrom_below h1 h2)
/-- A round's own variable. -/
def LkA (n₀ N m : Nat) (x : LK) (a' : Act) (W : World) : Prop := ∃ Bx, Bk W Bx 58 [.int .i64 x.1.1, .int .i64 x.1.2] ∧ a' = { tmps := #[Value.pointer (some { block := N, off := 0 }), undef, Value.slice none 0 0, Value.pointer (some { block := n₀, off := 0 }), .pointer (some ⟨Bx, 0, none⟩), Value.pointer (some { block := N, off := 0 }), Value.bool true, Value.bool false, Value.pointer (some { block := N, off := 0 }), Value.pointer (some { block := N, off := 0 }), Value.pointer (some { block := N, off := 0 }), Value.pointer (some { block := N, off := 0 }), Value.map (some m), Value.func (Fn.func 45) #[] #[Value.pointer (some { block := n₀ + 1, off := 0 })], .agg #[.int .i64 x.1.1, .int .i64 x.1.2], undef, undef, undef, undef, undef, undef, undef], defers := [] }
theorem lkA_own (n₀ N m B : Nat) (x : LK) (a' : Act) : OwnFrom B (fun (_ : Unit) W => LkA n₀ N m x a' W) := by
  rintro s W W' row ⟨Bx, h2, h3⟩ hg hr
  exact ⟨Bx, (bk_own (β := Unit) Bx _ _).from B () W W' row h2 hg hr, h3⟩
set_option maxHeartbeats 4000000 in
theorem Links_any {K : Nat → Prop} {N : Nat} {st : NSt} (w : World) (h : NetAt w K N st) (hfew : st.rows.length ≤ 1000000) :
    Calls Tryz.prog 12 #[.pointer (some ⟨N, 0, none⟩)] w fun e w' => ∃ v L, e = .returned v ∧ (L.Perm (st.rows.map fun r => (r.a, r.b)) ∧ L.Pairwise fun x y => ltL x y = true) ∧ w'.ownsRow w.heap.size 38 2 v L.length (lkC L) ∧ Below w.heap.size w w' := by
  obtain ⟨es, ck, hm1, hm2, hm3⟩ := h.map
  obtain ⟨ks, hks, hkl⟩ : ∃ ks : List LK, es.map (·.key) = ks.map encL ∧ lkP ks = st.rows.map fun r => (r.a, r.b) := by
    have h1 : es.map (·.key) = st.rows.map NRow.key := by
      have := congrArg (List.map Prod.fst) hm3
      simpa [List.map_map, Function.comp_def] using this
    rw [h1]
    have : ∀ rs : List NRow, (∀ r ∈ rs, I64 r.a ∧ I64 r.b) → ∃ ks : List LK, rs.map NRow.key = ks.map encL ∧ lkP ks = rs.map fun r => (r.a, r.b) := by
      intro rs
      induction rs with
      | nil => intro _; exact ⟨[], rfl, rfl⟩
      | cons r rs ih =>
        intro hr
        obtain ⟨ks, e1, e2⟩ := ih (fun r hr' => hr r (by simp [hr']))
        exact ⟨⟨(r.a, r.b), hr r (by simp)⟩ :: ks, by simp [e1, encL, NRow.key], by simp [lkP] at e2 ⊢; exact e2⟩
    exact this st.rows fun r hr => ⟨(h.row r hr).ia, (h.row r hr).ib⟩
  have hlen : ks.length ≤ 1000000 := by
    have := congrArg List.length hkl
    simp [lkP] at this
    omega
  have hka := h.ka
  have HKS := Lib.hid hks
  have HKL := Lib.hid hkl
  have HM := Lib.hid hm1
  clear hm1 hm3 hks hkl
  obtain ⟨i0, hi, hz0, hz1, hz2⟩ := info_parts info47
  have c0 := h.net.cell 0
  have hNl := h.net.lt
  simp only [List.getElem?_cons_zero] at c0
  refine (callsIn_wide (n := 3)).1 ?_
  refine callsIn_of_wp_marks Tryz.func12 rfl trivial ?_ rfl
  simp only [Tryz.ntmps12, List.size_toArray, List.length_cons, List.length_nil, Nat.reduceAdd, Nat.reduceSub, Array.replicate_succ, Array.replicate_zero, List.push_toArray, List.append_toArray, List.nil_append, List.cons_append]
  gi_wp2_with (first
    | (refine ⟨trivial, ?_⟩; gi_at_call 28; refine (callsIn_wide.2 (known_any N st.m _ h.net)).mono ?_; rintro e w1 ⟨rfl, rfl⟩)
    | (refine ⟨trivial, ?_⟩; gi_at_call 29; refine (callsIn_wide.2 (keys_any st.m _)).mono ?_; rintro e w1 ⟨rfl, rfl⟩))
  obtain ⟨W0, hW0, b1, b2, bel, hsz⟩ := new2 w [.slice none 0 0] [.map (some st.m)] 36 44
  rw [← hW0]
  clear hW0
  have hmp : W0.heap[st.m]? = some (.map es.toArray ck) := (bel.block _ (Array.getElem?_eq_some_iff.1 HM.out).1).trans HM.out
  have hbc : W0.cell? ⟨w.heap.size + 1, 0, none⟩ = some (.map (some st.m)) := by have := b2.cell 0; simpa using this
  have h0 : LkI w.heap.size w [] W0 := ⟨⟨.slice none 0 0, b1, World.ownsRow_nil _ _ _ _, trivial⟩, bel⟩
  refine wpIn_rangeFunc_ownH (α := LK) (gf := 45) (lb := #[.pointer (some ⟨w.heap.size + 1, 0, none⟩)]) rfl (by omega) rfl trivial (enters_of Tryz.func45 (by kernel_rfl) rfl)
    (keys_stops hm2 ks HKS.out Fence.wide (3 - 1) trivial rfl (by omega) (w.heap.size + 1) st.m W0 (by omega) hbc hmp) walksK_t walksK_b (Below.refl _ _) (fun _ => rfl)
    (LkI w.heap.size w) (fun _ _ _ => False) (lkI_own _ _ _ (Nat.le_refl _) bel.size) (fun _ _ _ _ _ hs _ _ => hs) h0 (LkA w.heap.size N st.m) (fun x a' => lkA_own _ _ _ _ x a') ?assign ?body ?done ?stop
  case assign =>
    rintro l pre x W K hI hK
    unfold encL linkV
    gi_wp2
    exact hK _ _ ((KeepsOthers.alloc _ _).from _) (KeepsWalks.alloc _ _) ((lkI_own _ _ _ (Nat.le_refl _) bel.size).alloc _ hI) ⟨W.heap.size, Bk.new W _ _, rfl⟩
  case body =>
    rintro l pre x _ W hl ⟨r, hr⟩ ⟨⟨v, hv, hrow, _⟩, hB⟩ ⟨Bx, bX, rfl⟩ hlt
    have hle : w.heap.size ≤ W.heap.size := hB.size
    have q0 := bX.cell 0
    have q1 := bX.cell 1
    simp only [List.getElem?_cons_zero, List.getElem?_cons_succ] at q0 q1
    have hvc := hv.cell
    gi_wp2_with (gi_at_builtin; refine wpListIn_append_own _ rfl _ _ 36 rfl w.heap.size 38 i0 _ 2 16 Tryz.underlying36 hi hz0 hz1 hz2 rfl (by decide) _ _ _ rfl (hrow.alloc _) ⟨W.heap.size, 0, none⟩ 1 1 [.int .i64 x.1.1, .int .i64 x.1.2] rfl rfl (cell_two_new _ _ _ _) (by simp [Value.oneCell']) (by unfold maxLen; omega) (by omega) (by simp; omega) ?_; intro v' w1 hown' hgrow _; obtain ⟨g', cap', rfl⟩ := ownsRow_succ hown'; obtain ⟨hv1, hv2, hr2, hk2, hb2⟩ := hv.appended (by decide) hrow hle (Nat.le_refl _) hown' hgrow; have hc1 := hv1.cell; have hf1 := hv1.frozen)
    exact ⟨hk2.from _, ⟨hk2.size, fun k o hk ho => hk2.same k o hk (Obj.not_cells_of_walk ho)⟩, ⟨_, hv2, by rw [List.length_append, show lkP (pre ++ [x]) = lkP pre ++ [x.1] by simp [lkP], lkC_snoc]; exact hr2, trivial⟩, hB.trans hb2⟩
  case done =>
    rintro D ys W hD hS ⟨⟨v, hv, hrow, _⟩, hB⟩ hK
    have hvc := hv.cell
    have hperm : (lkP ys).Perm (st.rows.map fun r => (r.a, r.b)) := by
      rw [← HKL.out]
      have e : ∀ xs : List LK, (xs.map encL).map decL = lkP xs := fun xs => by rw [List.map_map]; rfl
      rw [← e, ← e]
      exact hS.map decL
    have hnd : (lkP ys).Nodup := by
      refine hperm.nodup_iff.2 ?_
      rw [List.Nodup, List.pairwise_map]
      exact hka.imp fun hn he => hn ⟨congrArg Prod.fst he, congrArg Prod.snd he⟩
    have hlen' : (lkP ys).length = ys.length := by simp [lkP]
    have hyl : ys.length ≤ 1000000 := by
      have := hperm.length_eq
      rw [hlen', List.length_map] at this
      omega
    have HP := Lib.hid hperm
    have HN := Lib.hid hnd
    have HL := Lib.hid hlen'
    clear hperm hnd hlen' hS
    have hDw : w.heap.size ≤ D := Nat.le_trans bel.size hD
    rcases Nat.eq_zero_or_pos ys.length with hz | hz
    · obtain rfl : ys = [] := List.eq_nil_of_length_eq_zero hz
      obtain ⟨A, cap, rfl⟩ : ∃ A cap, v = .slice A 0 cap := by
        rcases hrow.2 with ⟨e, _⟩ | ⟨g, cap, cur, e, _⟩
        · exact ⟨_, _, e⟩
        · exact ⟨_, _, e⟩
      clear hz
      gi_wp2_with (refine ⟨trivial, ?_⟩; gi_at_call 30; refine (callsIn_wide.2 (sort_none A cap _ _)).mono ?_; rintro e w1 ⟨rfl, rfl⟩)
      refine ⟨by simp, .inl ⟨_, _, rfl, run_takeDeferred hK, ?_⟩⟩
      refine ⟨_, results_tmp rfl _ _ _, _, [], rfl, ⟨HP.out, List.Pairwise.nil⟩, ownsRow_putObj hrow _ hK rfl, hB.trans (belowK_b (w := w) (Nat.le_refl _) w1 D _ _ hDw hK rfl rfl)⟩
    · obtain ⟨k, hk⟩ : ∃ k, ys.length = k + 1 := ⟨ys.length - 1, by omega⟩
      rw [hk] at hrow hz hyl
      obtain ⟨g, cap, rfl⟩ := ownsRow_succ hrow
      have HB := Lib.hid hv
      have hgD : some D ≠ some g := by
        intro e
        injection e with e
        rcases hrow.2 with ⟨q, _⟩ | ⟨g', cap', cur, q, _, hg, _⟩
        · cases q
        · injection q with q1 _ _
          injection q1 with q1
          injection q1 with q1
          rw [← q1, ← e, hK] at hg
          cases hg
      have hsr := sort_row hrow (by rw [HL.out]; exact hk.symm) HN.out hyl
      have HR := Lib.hid hrow
      have HKK := Lib.hid hk
      clear hk hv
      gi_wp2_with (refine ⟨trivial, ?_⟩; gi_at_call 30; refine (callsIn_wide.2 hsr).mono ?_; rintro e w1 ⟨rfl, L, l1, l2, l3, l4⟩; have hv1 := HB.out.kept l4 (HB.out.not_row (by decide) HR.out); have hc1 := hv1.cell; have L1 := Lib.hid l1; have L2 := Lib.hid l2; clear l1 l2)
      have hK1 : w1.heap[D]? = some (.deferred (some [])) := (l4.block D (Array.getElem?_eq_some_iff.1 hK).1 hgD).trans hK
      have hL : L.length = k + 1 := by
        have := L1.out.length_eq
        rw [HL.out, HKK.out] at this
        exact this
      refine ⟨by simp, .inl ⟨_, _, rfl, run_takeDeferred hK1, ?_⟩⟩
      refine ⟨_, results_tmp rfl _ _ _, _, L, rfl, ⟨L1.out.trans HP.out, L2.out⟩, by rw [hL]; exact ownsRow_putObj l3 _ hK1 rfl, (hB.grown l4 hB.size ?_).trans (belowK_b (w := w) (Nat.le_refl _) w1 D _ _ hDw hK1 rfl rfl)⟩
      intro j e
      injection e with e
      subst e
      rcases HR.out.2 with ⟨q, _⟩ | ⟨g', cap', cur, q, hb, _⟩
      · cases q
      · injection q with q1 _ _
        injection q1 with q1
        injection q1 with q1
        omega
  case stop =>
    rintro D c pre W _ _ hx
    exact hx.elim
end Go.Proofs.YtenkhbiikecegaaGreat
