/- net: the document's Links. -/
import Derived.Test.YtenkhbiikecegaaGreatMTake
namespace Go.Proofs.YtenkhbiikecegaaGreat
open Go.RowKit Go.Maps Go.ChangeMaps
set_option linter.unusedVariables false
set_option linter.unusedSimpArgs false
set_option maxRecDepth 100000

theorem below_any (x y : Int × Int) (w : World) : Calls Tryz.prog 34 #[.agg #[.int .i64 x.1, .int .i64 x.2], .agg #[.int .i64 y.1, .int .i64 y.2]] w fun e w' => e = .returned (.bool (ltL x y)) ∧ Below w.heap.size w w' := by
  obtain ⟨a, b⟩ := x
  obtain ⟨c, d⟩ := y
  have hb := (((Below.refl w.heap.size w).alloc (Nat.le_refl _) (.cells #[.int .i64 a, .int .i64 b] 38)).alloc (by simp) (.cells #[.int .i64 c, .int .i64 d] 38))
  dsimp only
  by_cases c1 : a < c
  · have hL : ltL (a, b) (c, d) = true := by simp [ltL, c1]
    have d1 : decide (a < c) = true := decide_eq_true c1
    rw [hL]
    go_enter Tryz.func34, Tryz.ntmps34
    go_wp2_with fail
    go_ret
    exact ⟨rfl, hb⟩
  have d1 : decide (a < c) = false := decide_eq_false c1
  by_cases c2 : a = c
  · have t2 : (a == c) = true := by simpa using c2
    by_cases c3 : b < d
    · have hL : ltL (a, b) (c, d) = true := by simp [ltL, c2, c3]
      have d3 : decide (b < d) = true := decide_eq_true c3
      rw [hL]
      clear c2
      go_enter Tryz.func34, Tryz.ntmps34
      go_wp2_with fail
      go_ret
      exact ⟨rfl, hb⟩
    · have hL : ltL (a, b) (c, d) = false := by simp only [ltL, decide_eq_false_iff_not]; omega
      have d3 : decide (b < d) = false := decide_eq_false c3
      rw [hL]
      clear c2
      go_enter Tryz.func34, Tryz.ntmps34
      go_wp2_with fail
      go_ret
      exact ⟨rfl, hb⟩
  · have hL : ltL (a, b) (c, d) = false := by simp only [ltL, decide_eq_false_iff_not]; omega
    have t2 : (a == c) = false := by simpa using c2
    rw [hL]
    clear c2
    go_enter Tryz.func34, Tryz.ntmps34
    go_wp2_with fail
    go_ret
    exact ⟨rfl, hb⟩
/-- A link more. -/
def insL (L : List (Int × Int)) (j : Nat) (x : Int × Int) : List (Int × Int) := L.take j ++ [x] ++ L.drop j
theorem ltL_total {x y : Int × Int} (h : ltL x y = false) (hn : x ≠ y) : ltL y x = true := by
  obtain ⟨a, b⟩ := x
  obtain ⟨c, d⟩ := y
  simp only [ltL, decide_eq_true_eq, decide_eq_false_iff_not] at *
  by_cases e : a = c
  · have : b ≠ d := fun e' => hn (by rw [e, e'])
    omega
  · omega
/-- The sorted links up to a packet. -/
def OnP (P : List RP) (k : Nat) (L : List (Int × Int)) : Prop := (∀ x y, (x, y) ∈ L ↔ ∃ p ∈ P.take k, p.a = x ∧ p.b = y) ∧ L.Pairwise (fun x y => ltL x y = true) ∧ L.length ≤ k
theorem OnP.zero (P : List RP) : OnP P 0 [] := ⟨by simp, List.Pairwise.nil, Nat.le_refl _⟩
theorem OnP.mem_succ {P : List RP} {k : Nat} {p : RP} (hp : P[k]? = some p) {q : RP} : q ∈ P.take (k + 1) ↔ q ∈ P.take k ∨ q = p := by
  rw [List.take_add_one, hp]; simp
theorem OnP.same {P : List RP} {k : Nat} {L : List (Int × Int)} (h : OnP P k L) {p : RP} (hp : P[k]? = some p) (hm : (p.a, p.b) ∈ L) : OnP P (k + 1) L := by
  refine ⟨fun x y => ?_, h.2.1, by have := h.2.2; omega⟩
  rw [h.1]
  constructor
  · rintro ⟨q, hq, e⟩
    exact ⟨q, (OnP.mem_succ hp).2 (.inl hq), e⟩
  · rintro ⟨q, hq, e1, e2⟩
    rcases (OnP.mem_succ hp).1 hq with hq | rfl
    · exact ⟨q, hq, e1, e2⟩
    · rw [← e1, ← e2]
      exact (h.1 _ _).1 hm
theorem OnP.more {P : List RP} {k j : Nat} {L : List (Int × Int)} (h : OnP P k L) {p : RP} (hp : P[k]? = some p) (h1 : ∀ q ∈ L.take j, ltL q (p.a, p.b) = true) (h2 : ∀ q, L[j]? = some q → ltL q (p.a, p.b) = false ∧ q ≠ (p.a, p.b)) : OnP P (k + 1) (insL L j (p.a, p.b)) := by
  have hdrop : ∀ q ∈ L.drop j, ltL (p.a, p.b) q = true := by
    intro q hq
    cases e : L[j]? with
    | none => rw [List.drop_eq_nil_of_le (List.getElem?_eq_none_iff.1 e)] at hq; cases hq
    | some z =>
      obtain ⟨z1, z2⟩ := h2 z e
      have hz := ltL_total z1 z2
      obtain ⟨hj, rfl⟩ := List.getElem?_eq_some_iff.1 e
      rw [List.drop_eq_getElem_cons hj] at hq
      rcases List.mem_cons.1 hq with rfl | hq
      · exact hz
      · have hs : (L.drop j).Pairwise (fun x y => ltL x y = true) := h.2.1.sublist (List.drop_sublist _ _)
        rw [List.drop_eq_getElem_cons hj] at hs
        exact ltL_trans hz ((List.pairwise_cons.1 hs).1 q hq)
  have hm : ∀ z, z ∈ insL L j (p.a, p.b) ↔ z ∈ L ∨ z = (p.a, p.b) := by
    intro z
    unfold insL
    have : z ∈ L ↔ z ∈ L.take j ∨ z ∈ L.drop j := by rw [← List.mem_append, List.take_append_drop]
    rw [this]
    simp only [List.append_assoc, List.mem_append, List.mem_cons, List.not_mem_nil, or_false]
    constructor
    · rintro (h | h | h)
      · exact .inl (.inl h)
      · exact .inr h
      · exact .inl (.inr h)
    · rintro ((h | h) | h)
      · exact .inl h
      · exact .inr (.inr h)
      · exact .inr (.inl h)
  refine ⟨fun x y => ?_, ?_, ?_⟩
  · rw [hm, h.1]
    constructor
    · rintro (⟨q, hq, e⟩ | e)
      · exact ⟨q, (OnP.mem_succ hp).2 (.inl hq), e⟩
      · injection e with e1 e2
        exact ⟨p, (OnP.mem_succ hp).2 (.inr rfl), e1.symm, e2.symm⟩
    · rintro ⟨q, hq, e1, e2⟩
      rcases (OnP.mem_succ hp).1 hq with hq | rfl
      · exact .inl ⟨q, hq, e1, e2⟩
      · exact .inr (by rw [e1, e2])
  · unfold insL
    rw [List.append_assoc]
    refine List.pairwise_append.2 ⟨h.2.1.sublist (List.take_sublist _ _), ?_, ?_⟩
    · exact List.pairwise_cons.2 ⟨hdrop, h.2.1.sublist (List.drop_sublist _ _)⟩
    · intro a ha b hb
      rcases List.mem_cons.1 hb with rfl | hb
      · exact h1 a ha
      · exact ltL_trans (h1 a ha) (hdrop b hb)
  · have := h.2.2
    unfold insL
    simp only [List.length_append, List.length_take, List.length_drop, List.length_cons, List.length_nil]
    omega
theorem insL_len (L : List (Int × Int)) (j : Nat) (x : Int × Int) (hj : j ≤ L.length) : (insL L j x).length = L.length + 1 := by
  unfold insL
  simp only [List.length_append, List.length_take, List.length_drop, List.length_cons, List.length_nil]
  omega
theorem lkC_app (a b : List (Int × Int)) : lkC (a ++ b) = lkC a ++ lkC b := by simp [lkC]
theorem lkC_take (L : List (Int × Int)) (j : Nat) (hj : j ≤ L.length) : (lkC L).take (j * 2) = lkC (L.take j) := by
  conv => lhs; rw [← List.take_append_drop j L, lkC_app]
  rw [List.take_append_of_le_length (by rw [lkC_len, List.length_take]; omega), List.take_of_length_le (by rw [lkC_len, List.length_take]; omega)]
theorem lkC_drop (L : List (Int × Int)) (j : Nat) (hj : j ≤ L.length) : (lkC L).drop (j * 2) = lkC (L.drop j) := by
  conv => lhs; rw [← List.take_append_drop j L, lkC_app]
  rw [List.drop_append_of_le_length (by rw [lkC_len, List.length_take]; omega), List.drop_eq_nil_of_le (by rw [lkC_len, List.length_take]; omega), List.nil_append]
theorem lkC_one (L : List (Int × Int)) : ∀ u ∈ lkC L, u.oneCell' = true := by
  intro u hu
  obtain ⟨p, _, hp⟩ := List.mem_flatMap.1 hu
  simp [encK] at hp
  rcases hp with rfl | rfl <;> rfl
theorem lkC_at {L : List (Int × Int)} {j : Nat} (hj : j < L.length) : (lkC L)[j * 2]? = some (.int .i64 (L[j]).1) ∧ (lkC L)[j * 2 + 1]? = some (.int .i64 (L[j]).2) := by
  rw [lkC_get _ _ (by omega), lkC_get _ _ (by omega), show j * 2 / 2 = j by omega, show (j * 2 + 1) / 2 = j by omega, show j * 2 % 2 = 0 by omega, show (j * 2 + 1) % 2 = 1 by omega, getElem!_pos L j hj]
  exact ⟨rfl, rfl⟩
/-- The first elements of a row of the call's own. -/
theorem owns_take {w : World} {base e size n : Nat} {A : Option Addr} {c : Nat} {xs : List Value} (h : w.ownsRow base e size (.slice A n c) n xs) (j : Nat) (hj : j ≤ n) : w.ownsRow base e size (.slice A j c) j (xs.take (j * size)) := by
  have hm := Nat.mul_le_mul_right size hj
  refine ⟨by rw [List.length_take, h.1]; omega, ?_⟩
  rcases h.2 with ⟨h', hn⟩ | ⟨g, cap, cur, h', hb, hg, h1, h2, h3, h4⟩
  · subst hn
    obtain rfl : j = 0 := by omega
    exact .inl ⟨h', rfl⟩
  · injection h' with e1 _ e3
    subst e1 e3
    exact .inr ⟨g, _, cur, rfl, hb, hg, by omega, h2, h3, by rw [← h4, List.take_take, Nat.min_eq_left hm]⟩
section
variable {P : Program} {w : World}
theorem wpList_append_ownA {ops : Array Oper} {rest : List Oper} {o : Oper} {a : Act} {Q : Exit → Act → World → Prop} (hgd : o.guard = none) (s x : Operand) (t : TypeId)
    (ho : o.op = .call { callee := .builtin .append, args := #[s, x], argTypes := #[t, t] }) (base : Nat)
    (e : TypeId) (i : TypeInfo) (z : Value) (size bytes : Nat) (ht : P.underlying t = some (.slice e)) (hi : P.info? e = some i) (hz : i.zero = some z)
    (hsize : i.size = size) (hby : i.bytes = bytes) (hzs : z.cells.size = size) (hsz : 0 < size)
    (v : Value) (n : Nat) (xs : List Value) (hs : a.eval s = v) (hown : w.ownsRow base e size v n xs)
    (A : Option Addr) (m c : Nat) (news : List Value) (hx : a.eval x = .slice A m c) (hl : news.length = m * size) (hnone : A = none → m = 0 ∧ c = 0) (hnews : ∀ ad, A = some ad → ∀ j u, news[j]? = some u → w.cell? (ad.add j) = some u) (h1 : ∀ u ∈ news, u.oneCell' = true)
    (h63 : n + m ≤ maxLen) (hbytes : (n + m) * bytes ≤ 140737488355328) (hbase : base ≤ w.heap.size)
    (h : ∀ v' w', w'.ownsRow base e size v' (n + m) (xs ++ news) → w.grownBy w' v.ownBlock → wpList P ops Q rest (a.put o.dst v') w') : wpList P ops Q (o :: rest) a w := by
  refine wpList_plain hgd fun K hK => ?_
  unfold Oper.wp execOp
  cases A with
  | some ad =>
    obtain ⟨v', w', hr, h2, h3, _⟩ := run_append_own (P := P) w base t o.type e i z size bytes ht hi hz hsize hby hzs hsz v n xs hown ad m c news hl (hnews ad rfl) h1 h63 hbytes hbase
    simp only [ho, resolve, invoke, builtin, Sem.run_bind, Sem.run_pure, Result.andThen_ok, List.map_toArray, List.map_cons, List.map_nil, hs, hx, hr]
    exact hK _ _ (h v' w' h2 h3)
  | none =>
    obtain ⟨rfl, rfl⟩ := hnone rfl
    have hn : news = [] := List.eq_nil_of_length_eq_zero (by simpa using hl)
    subst hn
    have hr := run_append_owned_none (P := P) w base t o.type e i size ht hi v n xs hown
    simp only [ho, resolve, invoke, builtin, Sem.run_bind, Sem.run_pure, Result.andThen_ok, List.map_toArray, List.map_cons, List.map_nil, hs, hx, hr]
    exact hK _ _ (h v w (by simpa using hown) ⟨rfl, rfl, rfl, Nat.le_refl _, fun _ _ _ => rfl⟩)
end
/-- The state ahead of a round. -/
structure LkR (P : List RP) (w : World) (k : Nat) (L : List (Int × Int)) (o : Value) (wr : World) : Prop where
  on : OnP P k L
  i64 : ∀ p ∈ L, I64 p.1 ∧ I64 p.2
  row : wr.ownsRow w.heap.size 38 2 o L.length (lkC L)
  bel : Below w.heap.size w wr
theorem owns_at {w : World} {base : Nat} {A : Option Addr} {c : Nat} {L : List (Int × Int)} (h : w.ownsRow base 38 2 (.slice A L.length c) L.length (lkC L)) {j : Nat} (hj : j < L.length) :
    ∃ g, A = some ⟨g, 0, none⟩ ∧ base ≤ g ∧ g < w.heap.size ∧ L.length ≤ c ∧ w.cell? ⟨g, j * 2, none⟩ = some (.int .i64 (L[j]).1) ∧ w.cell? ⟨g, j * 2 + 1, none⟩ = some (.int .i64 (L[j]).2) := by
  obtain ⟨q1, q2⟩ := lkC_at hj
  rcases h.2 with ⟨h', hn⟩ | ⟨g, cap, cur, h', hb, hg, h1, h2, h3, h4⟩
  · omega
  · injection h' with e1 _ e3
    subst e1 e3
    have hadd : ∀ q, (⟨g, 0, none⟩ : Addr).add q = ⟨g, q, none⟩ := fun q => by unfold Addr.add; split <;> simp_all
    have k1 := h.cells (g := g) rfl _ _ q1
    have k2 := h.cells (g := g) rfl _ _ q2
    rw [hadd] at k1 k2
    exact ⟨g, rfl, hb, (Array.getElem?_eq_some_iff.1 hg).1, h1, k1, k2⟩
theorem owns_none {w : World} {base e size n : Nat} {A : Option Addr} {c : Nat} {xs : List Value} (h : w.ownsRow base e size (.slice A n c) n xs) : (A = none → n = 0 ∧ c = 0) ∧ (∀ ad, A = some ad → ad = ⟨ad.block, 0, none⟩ ∧ base ≤ ad.block ∧ ad.block < w.heap.size ∧ n ≤ c ∧ c ≤ maxLen ∧ ∀ j u, xs[j]? = some u → w.cell? (ad.add j) = some u) := by
  rcases h.2 with ⟨h', hn⟩ | ⟨g, cap, cur, h', hb, hg, h1, h2, h3, h4⟩
  · injection h' with e1 _ e3
    subst e1 e3
    exact ⟨fun _ => ⟨hn, rfl⟩, (fun ad e => by cases e)⟩
  · injection h' with e1 _ e3
    subst e1 e3
    refine ⟨(fun e => by cases e), fun ad e => ?_⟩
    injection e with e
    subst e
    exact ⟨rfl, hb, (Array.getElem?_eq_some_iff.1 hg).1, h1, h2, h.cells rfl⟩
set_option maxHeartbeats 4000000 in
theorem rlinks_any {B : Nat → Prop} {R n g : Nat} {P : List RP} {v : Value} (w : World) (h : RN B R P n v g w) :
    Calls Tryz.prog 13 #[.pointer (some ⟨R, 0, none⟩)] w fun e w' => ∃ o L, e = .returned o ∧ LkR P w P.length L o w' := by
  have hmax : P.length ≤ 1000000 := Nat.le_trans h.few h.nn
  have cR := h.cellR
  obtain ⟨pA, pc, rfl, hl, hm, hA⟩ := h.form
  clear hA
  obtain ⟨i0, hi, hz0, hz1, hz2⟩ := info_parts info47
  have H := Lib.hid h
  clear h
  go_enter Tryz.func13, Tryz.ntmps13
  go_wp2_with fail
  go_loopw [3, 4] (fun o i wr => ∃ (k : Nat) (L : List (Int × Int)), k ≤ P.length ∧ i = .int .i64 k ∧ LkR P w k L o wr) (fun _ i _ => P.length - (intOf i).toNat)
  case atStart => exact ⟨0, [], Nat.zero_le _, rfl, OnP.zero P, by simp, World.ownsRow_nil _ _ _ _, Below.refl _ _⟩
  case round =>
    obtain ⟨k, L, hk, rfl, hR⟩ := hrel
    have HR := Lib.hid hR
    obtain ⟨A, c, ho⟩ := owns_form hR.row
    have N : RN B R P n (.slice pA P.length pc) g wr := H.out.keep (fun j q => hR.bel.block j (H.out.lt j q)) hR.bel.size
    clear hR
    have cRr := N.cellR
    subst ho
    by_cases hlt : k < P.length
    · have d1 : decide ((k : Int) < (P.length : Int)) = true := decide_eq_true (by omega)
      obtain ⟨p, c', hp, hpm, hv, _, ca, cb, _⟩ := N.at_ hlt
      injection hv with hv1 _ hv2
      subst hv1 hv2
      obtain ⟨ha64, hb64, _, _⟩ := N.dat p hpm
      have HP := Lib.hid hp
      have HA64 := Lib.hid (And.intro ha64 hb64)
      clear hp ha64 hb64 hpm
      have hB : ∀ W', Below wr.heap.size wr W' → (W'.cell? ⟨R, 0, none⟩ = some (.slice (some ⟨g, 0, none⟩) P.length pc) ∧ W'.cell? ⟨g, k * 3, none⟩ = some (.int .i64 p.a) ∧ W'.cell? ⟨g, k * 3 + 1, none⟩ = some (.int .i64 p.b)) := by
        intro W' hW'
        have N' := N.keep (fun j q => hW'.block j (N.lt j q)) hW'.size
        obtain ⟨p', c', hp', _, _, _, q1, q2, _⟩ := N'.at_ hlt
        rw [HP.out] at hp'
        injection hp' with hp'
        subst hp'
        exact ⟨N'.cellR, q1, q2⟩
      have hwi : wr.cell? ⟨R, 0, none⟩ = some (.slice (some ⟨g, 0, none⟩) P.length pc) ∧ wr.cell? ⟨g, k * 3, none⟩ = some (.int .i64 p.a) ∧ wr.cell? ⟨g, k * 3 + 1, none⟩ = some (.int .i64 p.b) := ⟨cRr, ca, cb⟩
      go_wp2_with fail
      refine wp_region_held_drew (S := (fun w' => w'.cell? ⟨R, 0, none⟩ = some (.slice (some ⟨g, 0, none⟩) P.length pc) ∧ w'.cell? ⟨g, k * 3, none⟩ = some (.int .i64 p.a) ∧ w'.cell? ⟨g, k * 3 + 1, none⟩ = some (.int .i64 p.b))) (by kernel_rfl) hwi (fun hS => ?_)
      refine wpAnyH_take (i := 0) (v := ?_) rfl (by kernel_rfl) (by kernel_rfl) (by kernel_rfl) (fun _ _ _ h => h) (Or.inl ⟨by rfl, ?_⟩) hS ?_
      rotate_left 1
      · intro w' hSw
        go_simp <;> with_reducible rfl
      try simp only [List.getElem_toArray, List.getElem_cons_zero, List.getElem_cons_succ, Act.put, List.setIfInBounds_toArray, List.set_cons_zero, List.set_cons_succ]
      refine wpAnyH_take (i := 1) (v := ?_) rfl (by kernel_rfl) (by kernel_rfl) (by kernel_rfl) (fun _ _ _ h => h) (Or.inl ⟨by rfl, ?_⟩) hS ?_
      rotate_left 1
      · intro w' hSw
        go_simp <;> with_reducible rfl
      try simp only [List.getElem_toArray, List.getElem_cons_zero, List.getElem_cons_succ, Act.put, List.setIfInBounds_toArray, List.set_cons_zero, List.set_cons_succ]
      refine wpAnyH_take (i := 2) (v := ?_) rfl (by kernel_rfl) (by kernel_rfl) (by kernel_rfl) (fun _ _ _ h => h) (Or.inl ⟨by rfl, ?_⟩) hS ?_
      rotate_left 1
      · intro w' hSw
        go_simp <;> with_reducible rfl
      try simp only [List.getElem_toArray, List.getElem_cons_zero, List.getElem_cons_succ, Act.put, List.setIfInBounds_toArray, List.set_cons_zero, List.set_cons_succ]
      refine wpAnyH_take (i := 3) (v := ?_) rfl (by kernel_rfl) (by kernel_rfl) (by kernel_rfl) (fun _ _ _ h => h) (Or.inl ⟨by rfl, ?_⟩) hS ?_
      rotate_left 1
      · intro w' hSw
        go_simp <;> with_reducible rfl
      try simp only [List.getElem_toArray, List.getElem_cons_zero, List.getElem_cons_succ, Act.put, List.setIfInBounds_toArray, List.set_cons_zero, List.set_cons_succ]
      refine wpAnyH_take (i := 4) (v := ?_) rfl (by kernel_rfl) (by kernel_rfl) (by kernel_rfl) (fun _ _ _ h => h) (Or.inl ⟨by rfl, ?_⟩) hS ?_
      rotate_left 1
      · intro w' hSw
        go_simp <;> with_reducible rfl
      try simp only [List.getElem_toArray, List.getElem_cons_zero, List.getElem_cons_succ, Act.put, List.setIfInBounds_toArray, List.set_cons_zero, List.set_cons_succ]
      refine wpAnyH_take (i := 5) (v := ?_) rfl (by kernel_rfl) (by kernel_rfl) (by kernel_rfl) (fun _ _ _ h => h) (Or.inl ⟨by rfl, ?_⟩) hS ?_
      rotate_left 1
      · intro w' hSw
        go_simp <;> with_reducible rfl
      try simp only [List.getElem_toArray, List.getElem_cons_zero, List.getElem_cons_succ, Act.put, List.setIfInBounds_toArray, List.set_cons_zero, List.set_cons_succ]
      refine wpAnyH_take (i := 6) (v := ?_) rfl (by kernel_rfl) (by kernel_rfl) (by kernel_rfl) (fun _ _ _ h => h) (Or.inl ⟨by rfl, ?_⟩) hS ?_
      rotate_left 1
      · intro w' hSw
        go_simp <;> with_reducible rfl
      try simp only [List.getElem_toArray, List.getElem_cons_zero, List.getElem_cons_succ, Act.put, List.setIfInBounds_toArray, List.set_cons_zero, List.set_cons_succ]
      refine wpAnyH_take (i := 7) (v := ?_) rfl (by kernel_rfl) (by kernel_rfl) (by kernel_rfl) (fun _ _ _ h => h) (Or.inl ⟨by rfl, ?_⟩) hS ?_
      rotate_left 1
      · intro w' hSw
        go_simp <;> with_reducible rfl
      try simp only [List.getElem_toArray, List.getElem_cons_zero, List.getElem_cons_succ, Act.put, List.setIfInBounds_toArray, List.set_cons_zero, List.set_cons_succ]
      refine wpAnyH_take (i := 8) (v := ?_) rfl (by kernel_rfl) (by kernel_rfl) (by kernel_rfl) (fun _ _ _ h => h) (Or.inl ⟨by rfl, ?_⟩) hS ?_
      rotate_left 1
      · intro w' hSw
        go_simp <;> with_reducible rfl
      try simp only [List.getElem_toArray, List.getElem_cons_zero, List.getElem_cons_succ, Act.put, List.setIfInBounds_toArray, List.set_cons_zero, List.set_cons_succ]
      refine wpAnyH_take (i := 9) (v := ?_) rfl (by kernel_rfl) (by kernel_rfl) (by kernel_rfl) (fun _ _ _ h => h) (Or.inl ⟨by rfl, ?_⟩) hS ?_
      rotate_left 1
      · intro w' hSw
        go_simp <;> with_reducible rfl
      try simp only [List.getElem_toArray, List.getElem_cons_zero, List.getElem_cons_succ, Act.put, List.setIfInBounds_toArray, List.set_cons_zero, List.set_cons_succ]
      refine wpAnyH_take (i := 10) (v := ?_) rfl (by kernel_rfl) (by kernel_rfl) (by kernel_rfl) (fun _ _ _ h => h) (Or.inl ⟨by rfl, ?_⟩) hS ?_
      rotate_left 1
      · intro w' hSw
        go_simp <;> with_reducible rfl
      try simp only [List.getElem_toArray, List.getElem_cons_zero, List.getElem_cons_succ, Act.put, List.setIfInBounds_toArray, List.set_cons_zero, List.set_cons_succ]
      refine wpAnyH_take (i := 11) (v := ?_) rfl (by kernel_rfl) (by kernel_rfl) (by kernel_rfl) (fun _ _ _ h => h) (Or.inl ⟨by rfl, ?_⟩) hS ?_
      rotate_left 1
      · intro w' hSw
        go_simp <;> with_reducible rfl
      try simp only [List.getElem_toArray, List.getElem_cons_zero, List.getElem_cons_succ, Act.put, List.setIfInBounds_toArray, List.set_cons_zero, List.set_cons_succ]
      refine wpAnyH_take (i := 12) (v := ?_) rfl (by kernel_rfl) (by kernel_rfl) (by kernel_rfl) (fun _ _ _ h => h) (Or.inl ⟨by rfl, ?_⟩) hS ?_
      rotate_left 1
      · intro w' hSw
        go_simp <;> with_reducible rfl
      try simp only [List.getElem_toArray, List.getElem_cons_zero, List.getElem_cons_succ, Act.put, List.setIfInBounds_toArray, List.set_cons_zero, List.set_cons_succ]
      refine wpAnyH_take (i := 13) (v := ?_) rfl (by kernel_rfl) (by kernel_rfl) (by kernel_rfl) (fun _ _ _ h => h) (Or.inl ⟨by rfl, ?_⟩) hS ?_
      rotate_left 1
      · intro w' hSw
        go_simp <;> with_reducible rfl
      try simp only [List.getElem_toArray, List.getElem_cons_zero, List.getElem_cons_succ, Act.put, List.setIfInBounds_toArray, List.set_cons_zero, List.set_cons_succ]
      refine wpAnyH_take (i := 14) (v := ?_) rfl (by kernel_rfl) (by kernel_rfl) (by kernel_rfl) (fun _ _ _ h => h) (Or.inl ⟨by rfl, ?_⟩) hS ?_
      rotate_left 1
      · intro w' hSw
        go_simp <;> with_reducible rfl
      try simp only [List.getElem_toArray, List.getElem_cons_zero, List.getElem_cons_succ, Act.put, List.setIfInBounds_toArray, List.set_cons_zero, List.set_cons_succ]
      refine wpAnyH_take (i := 15) (v := ?_) rfl (by kernel_rfl) (by kernel_rfl) (by kernel_rfl) (fun _ _ _ h => h) (Or.inl ⟨by rfl, ?_⟩) hS ?_
      rotate_left 1
      · intro w' hSw
        go_simp <;> with_reducible rfl
      try simp only [List.getElem_toArray, List.getElem_cons_zero, List.getElem_cons_succ, Act.put, List.setIfInBounds_toArray, List.set_cons_zero, List.set_cons_succ]
      refine wpAnyH_take (i := 16) (v := ?_) rfl (by kernel_rfl) (by kernel_rfl) (by kernel_rfl) (fun _ _ _ h => h) (Or.inl ⟨by rfl, ?_⟩) hS ?_
      rotate_left 1
      · intro w' hSw
        go_simp <;> with_reducible rfl
      try simp only [List.getElem_toArray, List.getElem_cons_zero, List.getElem_cons_succ, Act.put, List.setIfInBounds_toArray, List.set_cons_zero, List.set_cons_succ]
      refine wpAnyH_ready (rs := [17]) (by kernel_rfl) (by simp) (AllReadyH.cons rfl (fun K hK => ?_) AllReadyH.nil)
      go_simp
      refine hK _ _ (hB _ (((Below.refl _ _).alloc (Nat.le_refl _) _).drew)) (fun hS => ?_)
      clear hK K
      try simp only [List.getElem_toArray, List.getElem_cons_zero, List.getElem_cons_succ, Act.put, List.setIfInBounds_toArray, List.set_cons_zero, List.set_cons_succ]
      refine wpAnyH_ready (rs := [18]) (by kernel_rfl) (by simp) (AllReadyH.cons rfl (fun K hK => ?_) AllReadyH.nil)
      go_simp
      refine hK _ _ (hB _ (((Below.refl _ _).alloc (Nat.le_refl _) _).drew)) (fun hS => ?_)
      clear hK K
      try simp only [List.getElem_toArray, List.getElem_cons_zero, List.getElem_cons_succ, Act.put, List.setIfInBounds_toArray, List.set_cons_zero, List.set_cons_succ]
      refine wpAnyH_done (by kernel_rfl) ?_ _
      go_wp2_with fail
      have hbo : Below wr.heap.size wr (wr.alloc (.cells #[.int .i64 p.a, .int .i64 p.b] 38)).drew := ((Below.refl _ _).alloc (Nat.le_refl _) _).drew
      have hX : Bk (wr.alloc (.cells #[.int .i64 p.a, .int .i64 p.b] 38)).drew wr.heap.size 38 [.int .i64 p.a, .int .i64 p.b] := (Bk.new wr _ _).drew
      generalize (wr.alloc (.cells #[.int .i64 p.a, .int .i64 p.b] 38)).drew = wo at *
      obtain ⟨XB, hXB⟩ : ∃ XB, XB = wr.heap.size := ⟨_, rfl⟩
      rw [← hXB] at hX ⊢
      have HXB := Lib.hid hXB
      clear hXB
      clear hB hwi ca cb cRr
      have hro := owns_keep (w' := wo) HR.out.row (fun q e => hbo.block q (owns_lt HR.out.row q e))
      have hLk := HR.out.on.2.2
      go_loopw [6] (fun at_ wx => ∃ j : Nat, j ≤ L.length ∧ at_ = .int .i64 j ∧ Hid (∀ q ∈ L.take j, ltL q (p.a, p.b) = true) ∧ Below wo.heap.size wo wx) (fun at_ _ => L.length - (intOf at_).toNat)
      case atStart => exact ⟨0, Nat.zero_le _, rfl, Lib.hid (by simp), Below.refl _ _⟩
      case round =>
        obtain ⟨j, hj, rfl, hq, hbx⟩ := hrel
        have hrx := owns_keep (w' := wr) hro (fun q e => hbx.block q (owns_lt hro q e))
        have hXx : Bk wr _ 38 [.int .i64 p.a, .int .i64 p.b] := (hbx.block _ hX.lt).trans hX
        by_cases hjl : j < L.length
        · obtain ⟨g2, rfl, hg2b, hg2l, hc2, q1, q2⟩ := owns_at hrx hjl
          have dj : decide ((j : Int) < (L.length : Int)) = true := decide_eq_true (by omega)
          have tj : ((j : Int) == (L.length : Int)) = false := beq_eq_false_iff_ne.2 (by omega)
          have HLj : Hid (L[j]? = some L[j]) := Lib.hid (List.getElem?_eq_getElem hjl)
          have hzi := HR.out.i64 _ (List.getElem_mem hjl)
          generalize L[j] = z at *
          obtain ⟨z1, z2⟩ := z
          dsimp only at q1 q2 hzi
          have HZI := Lib.hid hzi
          clear hzi
          have hbl := fun W => below_any (z1, z2) (p.a, p.b) W
          dsimp only at hbl
          have hne := fun W => neq47 z1 z2 p.a p.b HZI.out.1 HZI.out.2 HA64.out.1 HA64.out.2 W
          unfold linkV at hne
          have hB2 : ∀ W', Below wr.heap.size wr W' → (W'.cell? ⟨g2, j * 2, none⟩ = some (.int .i64 z1) ∧ W'.cell? ⟨g2, j * 2 + 1, none⟩ = some (.int .i64 z2) ∧ W'.cell? ⟨XB, 0, none⟩ = some (.int .i64 p.a) ∧ W'.cell? ⟨XB, 1, none⟩ = some (.int .i64 p.b)) := by
            intro W' hW'
            have h2 := (hXx.below hW' hXx.lt).cell 0
            have h3 := (hXx.below hW' hXx.lt).cell 1
            exact ⟨(World.cell?_of_block (hW'.block g2 hg2l)).trans q1, (World.cell?_of_block (hW'.block g2 hg2l)).trans q2, by simpa using h2, by simpa using h3⟩
          by_cases hlt2 : ltL (z1, z2) (p.a, p.b) = true
          · have HZ2 := Lib.hid hlt2
            rw [hlt2] at hbl
            clear hlt2
            go_wp2_with fail
            refine wp_region_held_drew (S := (fun W' => W'.cell? ⟨g2, j * 2, none⟩ = some (.int .i64 z1) ∧ W'.cell? ⟨g2, j * 2 + 1, none⟩ = some (.int .i64 z2) ∧ W'.cell? ⟨XB, 0, none⟩ = some (.int .i64 p.a) ∧ W'.cell? ⟨XB, 1, none⟩ = some (.int .i64 p.b))) (by kernel_rfl) (hB2 _ (Below.refl _ _).drew) (fun hS => ?_)
            refine wpAnyH_take (i := 0) (v := ?_) rfl (by kernel_rfl) (by kernel_rfl) (by kernel_rfl) (fun _ _ _ h => h) (Or.inl ⟨by rfl, ?_⟩) hS ?_
            rotate_left 1
            · intro w' hSw
              go_simp <;> with_reducible rfl
            try simp only [List.getElem_toArray, List.getElem_cons_zero, List.getElem_cons_succ, Act.put, List.setIfInBounds_toArray, List.set_cons_zero, List.set_cons_succ]
            refine wpAnyH_take (i := 1) (v := ?_) rfl (by kernel_rfl) (by kernel_rfl) (by kernel_rfl) (fun _ _ _ h => h) (Or.inl ⟨by rfl, ?_⟩) hS ?_
            rotate_left 1
            · intro w' hSw
              go_simp <;> with_reducible rfl
            try simp only [List.getElem_toArray, List.getElem_cons_zero, List.getElem_cons_succ, Act.put, List.setIfInBounds_toArray, List.set_cons_zero, List.set_cons_succ]
            refine wpAnyH_take (i := 2) (v := ?_) rfl (by kernel_rfl) (by kernel_rfl) (by kernel_rfl) (fun _ _ _ h => h) (Or.inl ⟨by rfl, ?_⟩) hS ?_
            rotate_left 1
            · intro w' hSw
              go_simp <;> with_reducible rfl
            try simp only [List.getElem_toArray, List.getElem_cons_zero, List.getElem_cons_succ, Act.put, List.setIfInBounds_toArray, List.set_cons_zero, List.set_cons_succ]
            refine wpAnyH_take (i := 3) (v := ?_) rfl (by kernel_rfl) (by kernel_rfl) (by kernel_rfl) (fun _ _ _ h => h) (Or.inl ⟨by rfl, ?_⟩) hS ?_
            rotate_left 1
            · intro w' hSw
              go_simp <;> with_reducible rfl
            try simp only [List.getElem_toArray, List.getElem_cons_zero, List.getElem_cons_succ, Act.put, List.setIfInBounds_toArray, List.set_cons_zero, List.set_cons_succ]
            refine wpAnyH_take (i := 4) (v := ?_) rfl (by kernel_rfl) (by kernel_rfl) (by kernel_rfl) (fun _ _ _ h => h) (Or.inl ⟨by rfl, ?_⟩) hS ?_
            rotate_left 1
            · intro w' hSw
              go_simp <;> with_reducible rfl
            try simp only [List.getElem_toArray, List.getElem_cons_zero, List.getElem_cons_succ, Act.put, List.setIfInBounds_toArray, List.set_cons_zero, List.set_cons_succ]
            refine wpAnyH_take (i := 5) (v := ?_) rfl (by kernel_rfl) (by kernel_rfl) (by kernel_rfl) (fun _ _ _ h => h) (Or.inl ⟨by go_simp, ?_⟩) hS ?_
            rotate_left 1
            · intro w' hSw
              go_simp <;> with_reducible rfl
            try simp only [List.getElem_toArray, List.getElem_cons_zero, List.getElem_cons_succ, Act.put, List.setIfInBounds_toArray, List.set_cons_zero, List.set_cons_succ]
            refine wpAnyH_take (i := 6) (v := ?_) rfl (by kernel_rfl) (by kernel_rfl) (by kernel_rfl) (fun _ _ _ h => h) (Or.inl ⟨by go_simp, ?_⟩) hS ?_
            rotate_left 1
            · intro w' hSw
              go_simp <;> with_reducible rfl
            try simp only [List.getElem_toArray, List.getElem_cons_zero, List.getElem_cons_succ, Act.put, List.setIfInBounds_toArray, List.set_cons_zero, List.set_cons_succ]
            refine wpAnyH_take (i := 7) (v := ?_) rfl (by kernel_rfl) (by kernel_rfl) (by kernel_rfl) (fun _ _ _ h => h) (Or.inl ⟨by go_simp, ?_⟩) hS ?_
            rotate_left 1
            · intro w' hSw
              go_simp <;> with_reducible rfl
            try simp only [List.getElem_toArray, List.getElem_cons_zero, List.getElem_cons_succ, Act.put, List.setIfInBounds_toArray, List.set_cons_zero, List.set_cons_succ]
            refine wpAnyH_take (i := 8) (v := ?_) rfl (by kernel_rfl) (by kernel_rfl) (by kernel_rfl) (fun _ _ _ h => h) (Or.inl ⟨by go_simp, ?_⟩) hS ?_
            rotate_left 1
            · intro w' hSw
              go_simp <;> with_reducible rfl
            try simp only [List.getElem_toArray, List.getElem_cons_zero, List.getElem_cons_succ, Act.put, List.setIfInBounds_toArray, List.set_cons_zero, List.set_cons_succ]
            refine wpAnyH_take (i := 9) (v := ?_) rfl (by kernel_rfl) (by kernel_rfl) (by kernel_rfl) (fun _ _ _ h => h) (Or.inl ⟨by go_simp, ?_⟩) hS ?_
            rotate_left 1
            · intro w' hSw
              go_simp <;> with_reducible rfl
            try simp only [List.getElem_toArray, List.getElem_cons_zero, List.getElem_cons_succ, Act.put, List.setIfInBounds_toArray, List.set_cons_zero, List.set_cons_succ]
            refine wpAnyH_ready (rs := [10]) (by kernel_rfl) (by simp) (AllReadyH.cons rfl (fun K hK => ?_) AllReadyH.nil)
            go_simp
            (with_reducible refine (hbl _).mono ?_)
            rintro _ w2 ⟨rfl, hb2⟩
            have hb2' : Below wr.heap.size wr w2 := (Below.refl _ _).drew.trans hb2
            go_simp
            refine hK _ _ (hB2 _ hb2') (fun hS => ?_)
            clear hK K
            try simp only [List.getElem_toArray, List.getElem_cons_zero, List.getElem_cons_succ, Act.put, List.setIfInBounds_toArray, List.set_cons_zero, List.set_cons_succ]
            refine wpAnyH_take (i := 11) (v := ?_) rfl (by kernel_rfl) (by kernel_rfl) (by kernel_rfl) (fun _ _ _ h => h) (Or.inl ⟨by rfl, ?_⟩) hS ?_
            rotate_left 1
            · intro w' hSw
              go_simp <;> with_reducible rfl
            try simp only [List.getElem_toArray, List.getElem_cons_zero, List.getElem_cons_succ, Act.put, List.setIfInBounds_toArray, List.set_cons_zero, List.set_cons_succ]
            refine wpAnyH_done (by kernel_rfl) ?_ _
            go_ways
            go_wp2_with fail
            go_roundw
            case rel =>
              refine ⟨j + 1, by omega, by go_num, Lib.hid (fun q hqm => ?_), hbx.trans (hb2'.mono hbx.size)⟩
              rw [List.take_add_one, HLj.out] at hqm
              rcases List.mem_append.1 hqm with hqm | hqm
              · exact hq.out q hqm
              · simp at hqm
                rw [hqm]; exact HZ2.out
            case measure => simp [intOf]; omega
          · have hlt3 : ltL (z1, z2) (p.a, p.b) = false := by simpa using hlt2
            have HZ2 := Lib.hid hlt3
            rw [hlt3] at hbl
            clear hlt2 hlt3
            go_wp2_with fail
            refine wp_region_held_drew (S := (fun W' => W'.cell? ⟨g2, j * 2, none⟩ = some (.int .i64 z1) ∧ W'.cell? ⟨g2, j * 2 + 1, none⟩ = some (.int .i64 z2) ∧ W'.cell? ⟨XB, 0, none⟩ = some (.int .i64 p.a) ∧ W'.cell? ⟨XB, 1, none⟩ = some (.int .i64 p.b))) (by kernel_rfl) (hB2 _ (Below.refl _ _).drew) (fun hS => ?_)
            refine wpAnyH_take (i := 0) (v := ?_) rfl (by kernel_rfl) (by kernel_rfl) (by kernel_rfl) (fun _ _ _ h => h) (Or.inl ⟨by rfl, ?_⟩) hS ?_
            rotate_left 1
            · intro w' hSw
              go_simp <;> with_reducible rfl
            try simp only [List.getElem_toArray, List.getElem_cons_zero, List.getElem_cons_succ, Act.put, List.setIfInBounds_toArray, List.set_cons_zero, List.set_cons_succ]
            refine wpAnyH_take (i := 1) (v := ?_) rfl (by kernel_rfl) (by kernel_rfl) (by kernel_rfl) (fun _ _ _ h => h) (Or.inl ⟨by rfl, ?_⟩) hS ?_
            rotate_left 1
            · intro w' hSw
              go_simp <;> with_reducible rfl
            try simp only [List.getElem_toArray, List.getElem_cons_zero, List.getElem_cons_succ, Act.put, List.setIfInBounds_toArray, List.set_cons_zero, List.set_cons_succ]
            refine wpAnyH_take (i := 2) (v := ?_) rfl (by kernel_rfl) (by kernel_rfl) (by kernel_rfl) (fun _ _ _ h => h) (Or.inl ⟨by rfl, ?_⟩) hS ?_
            rotate_left 1
            · intro w' hSw
              go_simp <;> with_reducible rfl
            try simp only [List.getElem_toArray, List.getElem_cons_zero, List.getElem_cons_succ, Act.put, List.setIfInBounds_toArray, List.set_cons_zero, List.set_cons_succ]
            refine wpAnyH_take (i := 3) (v := ?_) rfl (by kernel_rfl) (by kernel_rfl) (by kernel_rfl) (fun _ _ _ h => h) (Or.inl ⟨by rfl, ?_⟩) hS ?_
            rotate_left 1
            · intro w' hSw
              go_simp <;> with_reducible rfl
            try simp only [List.getElem_toArray, List.getElem_cons_zero, List.getElem_cons_succ, Act.put, List.setIfInBounds_toArray, List.set_cons_zero, List.set_cons_succ]
            refine wpAnyH_take (i := 4) (v := ?_) rfl (by kernel_rfl) (by kernel_rfl) (by kernel_rfl) (fun _ _ _ h => h) (Or.inl ⟨by rfl, ?_⟩) hS ?_
            rotate_left 1
            · intro w' hSw
              go_simp <;> with_reducible rfl
            try simp only [List.getElem_toArray, List.getElem_cons_zero, List.getElem_cons_succ, Act.put, List.setIfInBounds_toArray, List.set_cons_zero, List.set_cons_succ]
            refine wpAnyH_take (i := 5) (v := ?_) rfl (by kernel_rfl) (by kernel_rfl) (by kernel_rfl) (fun _ _ _ h => h) (Or.inl ⟨by go_simp, ?_⟩) hS ?_
            rotate_left 1
            · intro w' hSw
              go_simp <;> with_reducible rfl
            try simp only [List.getElem_toArray, List.getElem_cons_zero, List.getElem_cons_succ, Act.put, List.setIfInBounds_toArray, List.set_cons_zero, List.set_cons_succ]
            refine wpAnyH_take (i := 6) (v := ?_) rfl (by kernel_rfl) (by kernel_rfl) (by kernel_rfl) (fun _ _ _ h => h) (Or.inl ⟨by go_simp, ?_⟩) hS ?_
            rotate_left 1
            · intro w' hSw
              go_simp <;> with_reducible rfl
            try simp only [List.getElem_toArray, List.getElem_cons_zero, List.getElem_cons_succ, Act.put, List.setIfInBounds_toArray, List.set_cons_zero, List.set_cons_succ]
            refine wpAnyH_take (i := 7) (v := ?_) rfl (by kernel_rfl) (by kernel_rfl) (by kernel_rfl) (fun _ _ _ h => h) (Or.inl ⟨by go_simp, ?_⟩) hS ?_
            rotate_left 1
            · intro w' hSw
              go_simp <;> with_reducible rfl
            try simp only [List.getElem_toArray, List.getElem_cons_zero, List.getElem_cons_succ, Act.put, List.setIfInBounds_toArray, List.set_cons_zero, List.set_cons_succ]
            refine wpAnyH_take (i := 8) (v := ?_) rfl (by kernel_rfl) (by kernel_rfl) (by kernel_rfl) (fun _ _ _ h => h) (Or.inl ⟨by go_simp, ?_⟩) hS ?_
            rotate_left 1
            · intro w' hSw
              go_simp <;> with_reducible rfl
            try simp only [List.getElem_toArray, List.getElem_cons_zero, List.getElem_cons_succ, Act.put, List.setIfInBounds_toArray, List.set_cons_zero, List.set_cons_succ]
            refine wpAnyH_take (i := 9) (v := ?_) rfl (by kernel_rfl) (by kernel_rfl) (by kernel_rfl) (fun _ _ _ h => h) (Or.inl ⟨by go_simp, ?_⟩) hS ?_
            rotate_left 1
            · intro w' hSw
              go_simp <;> with_reducible rfl
            try simp only [List.getElem_toArray, List.getElem_cons_zero, List.getElem_cons_succ, Act.put, List.setIfInBounds_toArray, List.set_cons_zero, List.set_cons_succ]
            refine wpAnyH_ready (rs := [10]) (by kernel_rfl) (by simp) (AllReadyH.cons rfl (fun K hK => ?_) AllReadyH.nil)
            go_simp
            (with_reducible refine (hbl _).mono ?_)
            rintro _ w2 ⟨rfl, hb2⟩
            have hb2' : Below wr.heap.size wr w2 := (Below.refl _ _).drew.trans hb2
            go_simp
            refine hK _ _ (hB2 _ hb2') (fun hS => ?_)
            clear hK K
            try simp only [List.getElem_toArray, List.getElem_cons_zero, List.getElem_cons_succ, Act.put, List.setIfInBounds_toArray, List.set_cons_zero, List.set_cons_succ]
            refine wpAnyH_take (i := 11) (v := ?_) rfl (by kernel_rfl) (by kernel_rfl) (by kernel_rfl) (fun _ _ _ h => h) (Or.inl ⟨by rfl, ?_⟩) hS ?_
            rotate_left 1
            · intro w' hSw
              go_simp <;> with_reducible rfl
            try simp only [List.getElem_toArray, List.getElem_cons_zero, List.getElem_cons_succ, Act.put, List.setIfInBounds_toArray, List.set_cons_zero, List.set_cons_succ]
            refine wpAnyH_done (by kernel_rfl) ?_ _
            go_ways
            go_wp2_with fail
            by_cases hz : (z1, z2) = (p.a, p.b)
            · have hb' : decide ((z1, z2) = (p.a, p.b)) = true := decide_eq_true hz
              have HZ := Lib.hid hz
              simp only [hb', Bool.not_true] at hne
              clear hz hb'
              refine wp_region_held_drew (S := (fun W' => W'.cell? ⟨g2, j * 2, none⟩ = some (.int .i64 z1) ∧ W'.cell? ⟨g2, j * 2 + 1, none⟩ = some (.int .i64 z2) ∧ W'.cell? ⟨XB, 0, none⟩ = some (.int .i64 p.a) ∧ W'.cell? ⟨XB, 1, none⟩ = some (.int .i64 p.b))) (by kernel_rfl) (hB2 _ hb2'.drew) (fun hS => ?_)
              refine wpAnyH_take (i := 0) (v := ?_) rfl (by kernel_rfl) (by kernel_rfl) (by kernel_rfl) (fun _ _ _ h => h) (Or.inl ⟨by rfl, ?_⟩) hS ?_
              rotate_left 1
              · intro w' hSw
                go_simp <;> with_reducible rfl
              try simp only [List.getElem_toArray, List.getElem_cons_zero, List.getElem_cons_succ, Act.put, List.setIfInBounds_toArray, List.set_cons_zero, List.set_cons_succ]
              refine wpAnyH_take (i := 1) (v := ?_) rfl (by kernel_rfl) (by kernel_rfl) (by kernel_rfl) (fun _ _ _ h => h) (Or.inl ⟨by rfl, ?_⟩) hS ?_
              rotate_left 1
              · intro w' hSw
                go_simp <;> with_reducible rfl
              try simp only [List.getElem_toArray, List.getElem_cons_zero, List.getElem_cons_succ, Act.put, List.setIfInBounds_toArray, List.set_cons_zero, List.set_cons_succ]
              refine wpAnyH_take (i := 2) (v := ?_) rfl (by kernel_rfl) (by kernel_rfl) (by kernel_rfl) (fun _ _ _ h => h) (Or.inl ⟨by rfl, ?_⟩) hS ?_
              rotate_left 1
              · intro w' hSw
                go_simp <;> with_reducible rfl
              try simp only [List.getElem_toArray, List.getElem_cons_zero, List.getElem_cons_succ, Act.put, List.setIfInBounds_toArray, List.set_cons_zero, List.set_cons_succ]
              refine wpAnyH_take (i := 3) (v := ?_) rfl (by kernel_rfl) (by kernel_rfl) (by kernel_rfl) (fun _ _ _ h => h) (Or.inl ⟨by rfl, ?_⟩) hS ?_
              rotate_left 1
              · intro w' hSw
                go_simp <;> with_reducible rfl
              try simp only [List.getElem_toArray, List.getElem_cons_zero, List.getElem_cons_succ, Act.put, List.setIfInBounds_toArray, List.set_cons_zero, List.set_cons_succ]
              refine wpAnyH_take (i := 4) (v := ?_) rfl (by kernel_rfl) (by kernel_rfl) (by kernel_rfl) (fun _ _ _ h => h) (Or.inl ⟨by rfl, ?_⟩) hS ?_
              rotate_left 1
              · intro w' hSw
                go_simp <;> with_reducible rfl
              try simp only [List.getElem_toArray, List.getElem_cons_zero, List.getElem_cons_succ, Act.put, List.setIfInBounds_toArray, List.set_cons_zero, List.set_cons_succ]
              refine wpAnyH_take (i := 5) (v := ?_) rfl (by kernel_rfl) (by kernel_rfl) (by kernel_rfl) (fun _ _ _ h => h) (Or.inl ⟨by go_simp, ?_⟩) hS ?_
              rotate_left 1
              · intro w' hSw
                go_simp <;> with_reducible rfl
              try simp only [List.getElem_toArray, List.getElem_cons_zero, List.getElem_cons_succ, Act.put, List.setIfInBounds_toArray, List.set_cons_zero, List.set_cons_succ]
              refine wpAnyH_take (i := 6) (v := ?_) rfl (by kernel_rfl) (by kernel_rfl) (by kernel_rfl) (fun _ _ _ h => h) (Or.inl ⟨by go_simp, ?_⟩) hS ?_
              rotate_left 1
              · intro w' hSw
                go_simp <;> with_reducible rfl
              try simp only [List.getElem_toArray, List.getElem_cons_zero, List.getElem_cons_succ, Act.put, List.setIfInBounds_toArray, List.set_cons_zero, List.set_cons_succ]
              refine wpAnyH_take (i := 7) (v := ?_) rfl (by kernel_rfl) (by kernel_rfl) (by kernel_rfl) (fun _ _ _ h => h) (Or.inl ⟨by go_simp, ?_⟩) hS ?_
              rotate_left 1
              · intro w' hSw
                go_simp <;> with_reducible rfl
              try simp only [List.getElem_toArray, List.getElem_cons_zero, List.getElem_cons_succ, Act.put, List.setIfInBounds_toArray, List.set_cons_zero, List.set_cons_succ]
              refine wpAnyH_take (i := 8) (v := ?_) rfl (by kernel_rfl) (by kernel_rfl) (by kernel_rfl) (fun _ _ _ h => h) (Or.inl ⟨by go_simp, ?_⟩) hS ?_
              rotate_left 1
              · intro w' hSw
                go_simp <;> with_reducible rfl
              try simp only [List.getElem_toArray, List.getElem_cons_zero, List.getElem_cons_succ, Act.put, List.setIfInBounds_toArray, List.set_cons_zero, List.set_cons_succ]
              refine wpAnyH_take (i := 9) (v := ?_) rfl (by kernel_rfl) (by kernel_rfl) (by kernel_rfl) (fun _ _ _ h => h) (Or.inl ⟨by go_simp, ?_⟩) hS ?_
              rotate_left 1
              · intro w' hSw
                go_simp <;> with_reducible rfl
              try simp only [List.getElem_toArray, List.getElem_cons_zero, List.getElem_cons_succ, Act.put, List.setIfInBounds_toArray, List.set_cons_zero, List.set_cons_succ]
              refine wpAnyH_take (i := 10) (v := ?_) rfl (by kernel_rfl) (by kernel_rfl) (by kernel_rfl) (fun _ _ _ h => h) (Or.inl ⟨by go_simp, ?_⟩) hS ?_
              rotate_left 1
              · intro w' hSw
                go_simp <;> with_reducible rfl
              try simp only [List.getElem_toArray, List.getElem_cons_zero, List.getElem_cons_succ, Act.put, List.setIfInBounds_toArray, List.set_cons_zero, List.set_cons_succ]
              refine wpAnyH_take (i := 11) (v := ?_) rfl (by kernel_rfl) (by kernel_rfl) (by kernel_rfl) (fun _ _ _ h => h) (Or.inl ⟨by rfl, ?_⟩) hS ?_
              rotate_left 1
              · intro w' hSw
                go_simp <;> with_reducible rfl
              try simp only [List.getElem_toArray, List.getElem_cons_zero, List.getElem_cons_succ, Act.put, List.setIfInBounds_toArray, List.set_cons_zero, List.set_cons_succ]
              refine wpAnyH_done (by kernel_rfl) ?_ _
              go_ways
              go_wp2_with fail
              go_roundw
              case rel =>
                have hbf : Below w.heap.size w w2.drew := HR.out.bel.trans ((hbo.trans ((hbx.trans (hb2'.mono hbx.size)).mono hbo.size)).mono HR.out.bel.size).drew
                refine ⟨k + 1, L, by omega, by go_num, ⟨HR.out.on.same HP.out (by rw [← HZ.out]; exact List.mem_of_getElem? HLj.out), HR.out.i64, ?_, hbf⟩⟩
                exact owns_keep (w' := w2.drew) hrx (fun q e => hb2'.drew.block q (owns_lt hrx q e))
              case measure => simp [intOf]; omega
            · have hb' : decide ((z1, z2) = (p.a, p.b)) = false := decide_eq_false hz
              have HZ := Lib.hid hz
              simp only [hb', Bool.not_false] at hne
              clear hz hb'
              refine wp_region_held_drew (S := (fun W' => W'.cell? ⟨g2, j * 2, none⟩ = some (.int .i64 z1) ∧ W'.cell? ⟨g2, j * 2 + 1, none⟩ = some (.int .i64 z2) ∧ W'.cell? ⟨XB, 0, none⟩ = some (.int .i64 p.a) ∧ W'.cell? ⟨XB, 1, none⟩ = some (.int .i64 p.b))) (by kernel_rfl) (hB2 _ hb2'.drew) (fun hS => ?_)
              refine wpAnyH_take (i := 0) (v := ?_) rfl (by kernel_rfl) (by kernel_rfl) (by kernel_rfl) (fun _ _ _ h => h) (Or.inl ⟨by rfl, ?_⟩) hS ?_
              rotate_left 1
              · intro w' hSw
                go_simp <;> with_reducible rfl
              try simp only [List.getElem_toArray, List.getElem_cons_zero, List.getElem_cons_succ, Act.put, List.setIfInBounds_toArray, List.set_cons_zero, List.set_cons_succ]
              refine wpAnyH_take (i := 1) (v := ?_) rfl (by kernel_rfl) (by kernel_rfl) (by kernel_rfl) (fun _ _ _ h => h) (Or.inl ⟨by rfl, ?_⟩) hS ?_
              rotate_left 1
              · intro w' hSw
                go_simp <;> with_reducible rfl
              try simp only [List.getElem_toArray, List.getElem_cons_zero, List.getElem_cons_succ, Act.put, List.setIfInBounds_toArray, List.set_cons_zero, List.set_cons_succ]
              refine wpAnyH_take (i := 2) (v := ?_) rfl (by kernel_rfl) (by kernel_rfl) (by kernel_rfl) (fun _ _ _ h => h) (Or.inl ⟨by rfl, ?_⟩) hS ?_
              rotate_left 1
              · intro w' hSw
                go_simp <;> with_reducible rfl
              try simp only [List.getElem_toArray, List.getElem_cons_zero, List.getElem_cons_succ, Act.put, List.setIfInBounds_toArray, List.set_cons_zero, List.set_cons_succ]
              refine wpAnyH_take (i := 3) (v := ?_) rfl (by kernel_rfl) (by kernel_rfl) (by kernel_rfl) (fun _ _ _ h => h) (Or.inl ⟨by rfl, ?_⟩) hS ?_
              rotate_left 1
              · intro w' hSw
                go_simp <;> with_reducible rfl
              try simp only [List.getElem_toArray, List.getElem_cons_zero, List.getElem_cons_succ, Act.put, List.setIfInBounds_toArray, List.set_cons_zero, List.set_cons_succ]
              refine wpAnyH_take (i := 4) (v := ?_) rfl (by kernel_rfl) (by kernel_rfl) (by kernel_rfl) (fun _ _ _ h => h) (Or.inl ⟨by rfl, ?_⟩) hS ?_
              rotate_left 1
              · intro w' hSw
                go_simp <;> with_reducible rfl
              try simp only [List.getElem_toArray, List.getElem_cons_zero, List.getElem_cons_succ, Act.put, List.setIfInBounds_toArray, List.set_cons_zero, List.set_cons_succ]
              refine wpAnyH_take (i := 5) (v := ?_) rfl (by kernel_rfl) (by kernel_rfl) (by kernel_rfl) (fun _ _ _ h => h) (Or.inl ⟨by go_simp, ?_⟩) hS ?_
              rotate_left 1
              · intro w' hSw
                go_simp <;> with_reducible rfl
              try simp only [List.getElem_toArray, List.getElem_cons_zero, List.getElem_cons_succ, Act.put, List.setIfInBounds_toArray, List.set_cons_zero, List.set_cons_succ]
              refine wpAnyH_take (i := 6) (v := ?_) rfl (by kernel_rfl) (by kernel_rfl) (by kernel_rfl) (fun _ _ _ h => h) (Or.inl ⟨by go_simp, ?_⟩) hS ?_
              rotate_left 1
              · intro w' hSw
                go_simp <;> with_reducible rfl
              try simp only [List.getElem_toArray, List.getElem_cons_zero, List.getElem_cons_succ, Act.put, List.setIfInBounds_toArray, List.set_cons_zero, List.set_cons_succ]
              refine wpAnyH_take (i := 7) (v := ?_) rfl (by kernel_rfl) (by kernel_rfl) (by kernel_rfl) (fun _ _ _ h => h) (Or.inl ⟨by go_simp, ?_⟩) hS ?_
              rotate_left 1
              · intro w' hSw
                go_simp <;> with_reducible rfl
              try simp only [List.getElem_toArray, List.getElem_cons_zero, List.getElem_cons_succ, Act.put, List.setIfInBounds_toArray, List.set_cons_zero, List.set_cons_succ]
              refine wpAnyH_take (i := 8) (v := ?_) rfl (by kernel_rfl) (by kernel_rfl) (by kernel_rfl) (fun _ _ _ h => h) (Or.inl ⟨by go_simp, ?_⟩) hS ?_
              rotate_left 1
              · intro w' hSw
                go_simp <;> with_reducible rfl
              try simp only [List.getElem_toArray, List.getElem_cons_zero, List.getElem_cons_succ, Act.put, List.setIfInBounds_toArray, List.set_cons_zero, List.set_cons_succ]
              refine wpAnyH_take (i := 9) (v := ?_) rfl (by kernel_rfl) (by kernel_rfl) (by kernel_rfl) (fun _ _ _ h => h) (Or.inl ⟨by go_simp, ?_⟩) hS ?_
              rotate_left 1
              · intro w' hSw
                go_simp <;> with_reducible rfl
              try simp only [List.getElem_toArray, List.getElem_cons_zero, List.getElem_cons_succ, Act.put, List.setIfInBounds_toArray, List.set_cons_zero, List.set_cons_succ]
              refine wpAnyH_take (i := 10) (v := ?_) rfl (by kernel_rfl) (by kernel_rfl) (by kernel_rfl) (fun _ _ _ h => h) (Or.inl ⟨by go_simp, ?_⟩) hS ?_
              rotate_left 1
              · intro w' hSw
                go_simp <;> with_reducible rfl
              try simp only [List.getElem_toArray, List.getElem_cons_zero, List.getElem_cons_succ, Act.put, List.setIfInBounds_toArray, List.set_cons_zero, List.set_cons_succ]
              refine wpAnyH_take (i := 11) (v := ?_) rfl (by kernel_rfl) (by kernel_rfl) (by kernel_rfl) (fun _ _ _ h => h) (Or.inl ⟨by rfl, ?_⟩) hS ?_
              rotate_left 1
              · intro w' hSw
                go_simp <;> with_reducible rfl
              try simp only [List.getElem_toArray, List.getElem_cons_zero, List.getElem_cons_succ, Act.put, List.setIfInBounds_toArray, List.set_cons_zero, List.set_cons_succ]
              refine wpAnyH_done (by kernel_rfl) ?_ _
              go_ways
              have hw2 : Below wr.heap.size wr w2.drew := hb2'.drew
              generalize w2.drew = wz at *
              have hnz : ∀ a, some (⟨g2, j * 2, none⟩ : Addr) = some a → ∀ q u, (lkC (L.drop j))[q]? = some u → (wz.alloc (.cells #[] 38)).cell? (a.add q) = some u := by
                intro a e q u hu
                injection e with e
                subst e
                rw [← lkC_drop _ _ hj, List.getElem?_drop] at hu
                have h1 := hrx.cells (g := g2) rfl _ _ hu
                have hadd : ∀ b q, (⟨g2, b, none⟩ : Addr).add q = ⟨g2, b + q, none⟩ := fun b q => by unfold Addr.add; split <;> simp_all
                rw [hadd] at h1 ⊢
                rw [Nat.zero_add] at h1
                refine (World.cell?_of_block ?_).trans h1
                exact (heap_alloc_old _ _ (Nat.lt_of_lt_of_le hg2l hw2.size)).trans (hw2.block g2 hg2l)
              have hmk := World.ownsRow_made (base := wz.heap.size) (e := 38) (size := 2) wz #[] 0 (Nat.le_refl _) (by decide) rfl
              have HR9 := Lib.hid hrx
              clear hrx hro
              go_wp2_with (at_builtin; refine wpList_append_ownA (by rfl) (.tmp 60) (.tmp 63) 36 (by rfl) wz.heap.size 38 i0 _ 2 16 Tryz.underlying36 hi hz0 hz1 hz2 rfl (by decide) _ 0 [] (by rfl) hmk (some ⟨g2, j * 2, none⟩) (L.length - j) (c - j) (lkC (L.drop j)) (by rfl) (by rw [lkC_len, List.length_drop]) (fun e => by cases e) hnz (lkC_one _) (by unfold maxLen; omega) (by omega) (by simp) ?_; intro v1 w1 hr1 hgr1)
              rw [Nat.zero_add, List.nil_append] at hr1
              obtain ⟨A3, c3, rfl⟩ := owns_form hr1
              have hb1 : Below wz.heap.size wz w1 := ((Below.refl _ _).alloc (Nat.le_refl _) _).grown hgr1 (by simp) (fun q e => by have e : some wz.heap.size = some q := e; injection e with e; omega)
              clear hmk hnz hgr1
              have hzw : wr.heap.size ≤ wz.heap.size := hw2.size
              have hX1 : ∀ W', Below wz.heap.size wz W' → W'.cell? ⟨XB, 0, none⟩ = some (.int .i64 p.a) ∧ W'.cell? ⟨XB, 1, none⟩ = some (.int .i64 p.b) := by
                intro W' hW'
                have q1 := ((hXx.below hw2 hXx.lt).below hW' (Nat.lt_of_lt_of_le hXx.lt hzw)).cell 0
                have q2 := ((hXx.below hw2 hXx.lt).below hW' (Nat.lt_of_lt_of_le hXx.lt hzw)).cell 1
                exact ⟨by simpa using q1, by simpa using q2⟩
              go_wp2_with fail
              refine wp_region_held_drew (S := fun w' => True) (by kernel_rfl) trivial (fun hS => ?_)
              obtain ⟨x1, x2⟩ := hX1 _ hb1.drew
              refine wpAnyH_take (i := 0) (v := ?_) rfl (by kernel_rfl) (by kernel_rfl) (by kernel_rfl) (fun _ _ _ h => h) (Or.inl ⟨by rfl, ?_⟩) hS ?_
              rotate_left 1
              · intro w' hSw
                go_simp <;> with_reducible rfl
              try simp only [List.getElem_toArray, List.getElem_cons_zero, List.getElem_cons_succ, Act.put, List.setIfInBounds_toArray, List.set_cons_zero, List.set_cons_succ]
              refine wpAnyH_take (i := 1) (v := ?_) rfl (by kernel_rfl) (by kernel_rfl) (by kernel_rfl) (fun _ _ _ h => h) (Or.inl ⟨by rfl, ?_⟩) hS ?_
              rotate_left 1
              · intro w' hSw
                go_simp <;> with_reducible rfl
              try simp only [List.getElem_toArray, List.getElem_cons_zero, List.getElem_cons_succ, Act.put, List.setIfInBounds_toArray, List.set_cons_zero, List.set_cons_succ]
              refine wpAnyH_take (i := 2) (v := ?_) rfl (by kernel_rfl) (by kernel_rfl) (by kernel_rfl) (fun _ _ _ h => h) (Or.inl ⟨by rfl, ?_⟩) hS ?_
              rotate_left 1
              · intro w' hSw
                go_simp
                try rw [if_pos (show j ≤ c by omega)]
                try with_reducible rfl
              try simp only [List.getElem_toArray, List.getElem_cons_zero, List.getElem_cons_succ, Act.put, List.setIfInBounds_toArray, List.set_cons_zero, List.set_cons_succ]
              refine wpAnyH_take (i := 6) (v := ?_) rfl (by kernel_rfl) (by kernel_rfl) (by kernel_rfl) (fun _ _ _ h => h) (Or.inl ⟨by rfl, ?_⟩) hS ?_
              rotate_left 1
              · intro w' hSw
                go_simp <;> with_reducible rfl
              try simp only [List.getElem_toArray, List.getElem_cons_zero, List.getElem_cons_succ, Act.put, List.setIfInBounds_toArray, List.set_cons_zero, List.set_cons_succ]
              refine wpAnyH_ready (rs := [3]) (by kernel_rfl) (by simp) (AllReadyH.cons rfl (fun K hK => ?_) AllReadyH.nil)
              go_simp
              refine hK _ _ trivial (fun hS => ?_)
              clear hK K
              try simp only [List.getElem_toArray, List.getElem_cons_zero, List.getElem_cons_succ, Act.put, List.setIfInBounds_toArray, List.set_cons_zero, List.set_cons_succ]
              refine wpAnyH_ready (rs := [4]) (by kernel_rfl) (by simp) (AllReadyH.cons rfl (fun K hK => ?_) AllReadyH.nil)
              go_simp
              have hb4 : Below wz.heap.size wz (w1.alloc (.cells #[.int .i64 p.a, .int .i64 p.b] 38)).drew := (hb1.alloc hb1.size _).drew
              have hn4 := news_new w1 [.int .i64 p.a, .int .i64 p.b] 38
              have hs4 : (w1.alloc (.cells #[.int .i64 p.a, .int .i64 p.b] 38)).drew.heap.size = w1.heap.size + 1 := World.size_alloc _ _
              have hr4 : (w1.alloc (.cells #[.int .i64 p.a, .int .i64 p.b] 38)).drew.ownsRow wz.heap.size 38 2 (.slice A3 (L.length - j) c3) (L.length - j) (lkC (L.drop j)) := owns_keep hr1 (fun q e => heap_alloc_old w1 _ (owns_lt hr1 q e))
              refine hK _ _ trivial (fun hS => ?_)
              clear hK K
              rw [show [Value.int .i64 p.a, Value.int .i64 p.b].toArray = #[Value.int .i64 p.a, Value.int .i64 p.b] from rfl] at hn4
              have hn4 : ∀ j u, [Value.int .i64 p.a, Value.int .i64 p.b][j]? = some u → (w1.alloc (.cells #[.int .i64 p.a, .int .i64 p.b] 38)).drew.cell? ((⟨w1.heap.size, 0, none⟩ : Addr).add j) = some u := hn4
              generalize (w1.alloc (.cells #[.int .i64 p.a, .int .i64 p.b] 38)).drew = w4 at *
              try simp only [List.getElem_toArray, List.getElem_cons_zero, List.getElem_cons_succ, Act.put, List.setIfInBounds_toArray, List.set_cons_zero, List.set_cons_succ]
              refine wpAnyH_ready (rs := [5]) (by kernel_rfl) (by simp) (AllReadyH.cons rfl (fun K hK => ?_) AllReadyH.nil)
              have hrz : w4.ownsRow w.heap.size 38 2 (Value.slice (some ⟨g2, 0, none⟩) L.length c) L.length (lkC L) := owns_keep HR9.out (fun q e => ((hw2.block q (owns_lt HR9.out q e)).symm.trans (hb4.block q (Nat.lt_of_lt_of_le (owns_lt HR9.out q e) hzw)).symm).symm)
              refine step_append_ownA (by rfl) (.tmp 67) (.tmp 69) 36 (by rfl) w.heap.size 38 i0 _ 2 16 Tryz.underlying36 hi hz0 hz1 hz2 rfl (by decide) _ j _ (by rfl) (owns_take hrz j hj) (some ⟨w1.heap.size, 0, none⟩) 1 1 [.int .i64 p.a, .int .i64 p.b] (by rfl) rfl (fun e => by cases e) (fun ad e => by injection e with e; subst e; exact hn4) (fun u hu => by simp at hu; rcases hu with rfl | rfl <;> rfl) (by unfold maxLen; omega) (by omega) (Nat.le_trans HR.out.bel.size (by have := hbo.size; have := hbx.size; have := hb4.size; omega)) ?_
              intro v5 w5 hr5 hgr5
              obtain ⟨A5, c5, rfl⟩ := owns_form hr5
              have hg5 : ∀ q, (Value.slice (some ⟨g2, 0, none⟩) L.length c).ownBlock = some q → w.heap.size ≤ q ∧ q < wz.heap.size := fun q e => ⟨(owns_block HR9.out q e).1, Nat.lt_of_lt_of_le (owns_lt HR9.out q e) hzw⟩
              have hwz : w.heap.size ≤ wz.heap.size := Nat.le_trans HR.out.bel.size (by have := hbo.size; have := hbx.size; omega)
              have hbw : Below w.heap.size w wz := HR.out.bel.trans ((hbo.trans ((hbx.trans (hw2.mono hbx.size)).mono hbo.size)).mono HR.out.bel.size)
              have hb5 : Below w.heap.size w w5 := (hbw.trans (hb4.mono hwz)).grown hgr5 (by have := hb4.size; omega) (fun q e => (hg5 q e).1)
              have hr45 : w5.ownsRow wz.heap.size 38 2 (.slice A3 (L.length - j) c3) (L.length - j) (lkC (L.drop j)) := hr4.kept hgr5 (by
                rcases hr4.2 with ⟨e, _⟩ | ⟨g3, cap, cur, e, hb3, _⟩
                · left; rw [e]; rfl
                · right
                  rw [e]
                  intro e2
                  have := (hg5 g3 e2.symm).2
                  omega)
              have hs5 : wz.heap.size ≤ w5.heap.size := Nat.le_trans hb4.size hgr5.size
              refine hK _ _ trivial (fun hS => ?_)
              clear hK K hr4 hgr5 hrz hn4 hs4
              try simp only [List.getElem_toArray, List.getElem_cons_zero, List.getElem_cons_succ, Act.put, List.setIfInBounds_toArray, List.set_cons_zero, List.set_cons_succ]
              refine wpAnyH_ready (rs := [7]) (by kernel_rfl) (by simp) (AllReadyH.cons rfl (fun K hK => ?_) AllReadyH.nil)
              obtain ⟨n1, n2⟩ := owns_none hr45
              refine step_append_ownA (by rfl) (.tmp 70) (.tmp 71) 36 (by rfl) w.heap.size 38 i0 _ 2 16 Tryz.underlying36 hi hz0 hz1 hz2 rfl (by decide) _ (j + 1) _ (by rfl) hr5 A3 (L.length - j) c3 (lkC (L.drop j)) (by rfl) (by rw [lkC_len, List.length_drop]) n1 (fun ad e => (n2 ad e).2.2.2.2.2) (lkC_one _) (by unfold maxLen; omega) (by omega) (by omega) ?_
              intro v7 w7 hr7 hgr7
              have hb7 : Below w.heap.size w w7 := hb5.grown hgr7 (by omega) (fun q e => (owns_block hr5 q e).1)
              have hlist : (lkC L).take (j * 2) ++ [.int .i64 p.a, .int .i64 p.b] ++ lkC (L.drop j) = lkC (insL L j (p.a, p.b)) := by
                rw [lkC_take _ _ hj]
                unfold insL
                rw [lkC_app, lkC_app]
                rfl
              have hlen7 : j + 1 + (L.length - j) = (insL L j (p.a, p.b)).length := by rw [insL_len _ _ _ hj]; omega
              rw [hlist, hlen7] at hr7
              refine hK _ _ trivial (fun hS => ?_)
              clear hK K hgr7 hlist hr5 hr45 n1 n2
              try simp only [List.getElem_toArray, List.getElem_cons_zero, List.getElem_cons_succ, Act.put, List.setIfInBounds_toArray, List.set_cons_zero, List.set_cons_succ]
              refine wpAnyH_ready (rs := [8]) (by kernel_rfl) (by simp) (AllReadyH.cons rfl (fun K hK => ?_) AllReadyH.nil)
              go_simp
              refine hK _ _ trivial (fun hS => ?_)
              clear hK K
              try simp only [List.getElem_toArray, List.getElem_cons_zero, List.getElem_cons_succ, Act.put, List.setIfInBounds_toArray, List.set_cons_zero, List.set_cons_succ]
              refine wpAnyH_done (by kernel_rfl) ?_ _
              go_ways
              go_wp2_with fail
              go_roundw
              case rel =>
                refine ⟨k + 1, _, by omega, by go_num, ⟨(HR.out.on.more HP.out hq.out (fun q hqe => by rw [HLj.out] at hqe; injection hqe with hqe; subst hqe; exact ⟨HZ2.out, HZ.out⟩)), ?_, hr7, hb7⟩⟩
                intro q hqm
                unfold insL at hqm
                simp only [List.append_assoc, List.mem_append, List.mem_cons, List.not_mem_nil, or_false] at hqm
                rcases hqm with hqm | rfl | hqm
                · exact HR.out.i64 q (List.mem_of_mem_take hqm)
                · exact HA64.out
                · exact HR.out.i64 q (List.mem_of_mem_drop hqm)
              case measure => simp [intOf]; omega
        · have hjl' : j = L.length := by omega
          have HJL : Hid (L.length = j) := Lib.hid hjl'.symm
          clear hjl'
          have dj : decide ((j : Int) < (L.length : Int)) = false := decide_eq_false (by omega)
          have tj : ((j : Int) == (L.length : Int)) = true := by have := HJL.out; simp; omega
          have hon : OnP P (k + 1) (insL L j (p.a, p.b)) := HR.out.on.more HP.out hq.out (fun q hqe => by rw [List.getElem?_eq_none (by omega)] at hqe; cases hqe)
          go_wp2_with fail
          refine wp_region_held_drew (S := fun W' => True) (by kernel_rfl) trivial (fun hS => ?_)
          refine wpAnyH_take (i := 0) (v := ?_) rfl (by kernel_rfl) (by kernel_rfl) (by kernel_rfl) (fun _ _ _ h => h) (Or.inl ⟨by rfl, ?_⟩) hS ?_
          rotate_left 1
          · intro w' hSw
            go_simp <;> with_reducible rfl
          try simp only [List.getElem_toArray, List.getElem_cons_zero, List.getElem_cons_succ, Act.put, List.setIfInBounds_toArray, List.set_cons_zero, List.set_cons_succ]
          refine wpAnyH_take (i := 1) (v := ?_) rfl (by kernel_rfl) (by kernel_rfl) (by kernel_rfl) (fun _ _ _ h => h) (Or.inl ⟨by rfl, ?_⟩) hS ?_
          rotate_left 1
          · intro w' hSw
            go_simp <;> with_reducible rfl
          try simp only [List.getElem_toArray, List.getElem_cons_zero, List.getElem_cons_succ, Act.put, List.setIfInBounds_toArray, List.set_cons_zero, List.set_cons_succ]
          refine wpAnyH_take (i := 2) (v := ?_) rfl (by kernel_rfl) (by kernel_rfl) (by kernel_rfl) (fun _ _ _ h => h) (Or.inl ⟨by rfl, ?_⟩) hS ?_
          rotate_left 1
          · intro w' hSw
            go_simp <;> with_reducible rfl
          try simp only [List.getElem_toArray, List.getElem_cons_zero, List.getElem_cons_succ, Act.put, List.setIfInBounds_toArray, List.set_cons_zero, List.set_cons_succ]
          refine wpAnyH_take (i := 3) (v := ?_) rfl (by kernel_rfl) (by kernel_rfl) (by kernel_rfl) (fun _ _ _ h => h) (Or.inl ⟨by rfl, ?_⟩) hS ?_
          rotate_left 1
          · intro w' hSw
            go_simp <;> with_reducible rfl
          try simp only [List.getElem_toArray, List.getElem_cons_zero, List.getElem_cons_succ, Act.put, List.setIfInBounds_toArray, List.set_cons_zero, List.set_cons_succ]
          refine wpAnyH_take (i := 4) (v := ?_) rfl (by kernel_rfl) (by kernel_rfl) (by kernel_rfl) (fun _ _ _ h => h) (Or.inl ⟨by rfl, ?_⟩) hS ?_
          rotate_left 1
          · intro w' hSw
            go_simp <;> with_reducible rfl
          try simp only [List.getElem_toArray, List.getElem_cons_zero, List.getElem_cons_succ, Act.put, List.setIfInBounds_toArray, List.set_cons_zero, List.set_cons_succ]
          refine wpAnyH_take (i := 5) (v := undef) rfl (by kernel_rfl) (by kernel_rfl) (by kernel_rfl) (fun _ _ _ h => h) (Or.inr ⟨by go_simp, rfl⟩) hS ?_
          try simp only [List.getElem_toArray, List.getElem_cons_zero, List.getElem_cons_succ, Act.put, List.setIfInBounds_toArray, List.set_cons_zero, List.set_cons_succ]
          refine wpAnyH_take (i := 6) (v := undef) rfl (by kernel_rfl) (by kernel_rfl) (by kernel_rfl) (fun _ _ _ h => h) (Or.inr ⟨by go_simp, rfl⟩) hS ?_
          try simp only [List.getElem_toArray, List.getElem_cons_zero, List.getElem_cons_succ, Act.put, List.setIfInBounds_toArray, List.set_cons_zero, List.set_cons_succ]
          refine wpAnyH_take (i := 7) (v := undef) rfl (by kernel_rfl) (by kernel_rfl) (by kernel_rfl) (fun _ _ _ h => h) (Or.inr ⟨by go_simp, rfl⟩) hS ?_
          try simp only [List.getElem_toArray, List.getElem_cons_zero, List.getElem_cons_succ, Act.put, List.setIfInBounds_toArray, List.set_cons_zero, List.set_cons_succ]
          refine wpAnyH_take (i := 8) (v := undef) rfl (by kernel_rfl) (by kernel_rfl) (by kernel_rfl) (fun _ _ _ h => h) (Or.inr ⟨by go_simp, rfl⟩) hS ?_
          try simp only [List.getElem_toArray, List.getElem_cons_zero, List.getElem_cons_succ, Act.put, List.setIfInBounds_toArray, List.set_cons_zero, List.set_cons_succ]
          refine wpAnyH_take (i := 9) (v := undef) rfl (by kernel_rfl) (by kernel_rfl) (by kernel_rfl) (fun _ _ _ h => h) (Or.inr ⟨by go_simp, rfl⟩) hS ?_
          try simp only [List.getElem_toArray, List.getElem_cons_zero, List.getElem_cons_succ, Act.put, List.setIfInBounds_toArray, List.set_cons_zero, List.set_cons_succ]
          refine wpAnyH_take (i := 10) (v := undef) rfl (by kernel_rfl) (by kernel_rfl) (by kernel_rfl) (fun _ _ _ h => h) (Or.inr ⟨by go_simp, rfl⟩) hS ?_
          try simp only [List.getElem_toArray, List.getElem_cons_zero, List.getElem_cons_succ, Act.put, List.setIfInBounds_toArray, List.set_cons_zero, List.set_cons_succ]
          refine wpAnyH_take (i := 11) (v := ?_) rfl (by kernel_rfl) (by kernel_rfl) (by kernel_rfl) (fun _ _ _ h => h) (Or.inl ⟨by rfl, ?_⟩) hS ?_
          rotate_left 1
          · intro w' hSw
            go_simp <;> with_reducible rfl
          try simp only [List.getElem_toArray, List.getElem_cons_zero, List.getElem_cons_succ, Act.put, List.setIfInBounds_toArray, List.set_cons_zero, List.set_cons_succ]
          refine wpAnyH_done (by kernel_rfl) ?_ _
          go_ways
          go_wp2_with fail
          refine wp_region_held_drew (S := fun W' => True) (by kernel_rfl) trivial (fun hS => ?_)
          refine wpAnyH_take (i := 0) (v := ?_) rfl (by kernel_rfl) (by kernel_rfl) (by kernel_rfl) (fun _ _ _ h => h) (Or.inl ⟨by rfl, ?_⟩) hS ?_
          rotate_left 1
          · intro w' hSw
            go_simp <;> with_reducible rfl
          try simp only [List.getElem_toArray, List.getElem_cons_zero, List.getElem_cons_succ, Act.put, List.setIfInBounds_toArray, List.set_cons_zero, List.set_cons_succ]
          refine wpAnyH_take (i := 1) (v := ?_) rfl (by kernel_rfl) (by kernel_rfl) (by kernel_rfl) (fun _ _ _ h => h) (Or.inl ⟨by rfl, ?_⟩) hS ?_
          rotate_left 1
          · intro w' hSw
            go_simp <;> with_reducible rfl
          try simp only [List.getElem_toArray, List.getElem_cons_zero, List.getElem_cons_succ, Act.put, List.setIfInBounds_toArray, List.set_cons_zero, List.set_cons_succ]
          refine wpAnyH_take (i := 2) (v := ?_) rfl (by kernel_rfl) (by kernel_rfl) (by kernel_rfl) (fun _ _ _ h => h) (Or.inl ⟨by rfl, ?_⟩) hS ?_
          rotate_left 1
          · intro w' hSw
            go_simp <;> with_reducible rfl
          try simp only [List.getElem_toArray, List.getElem_cons_zero, List.getElem_cons_succ, Act.put, List.setIfInBounds_toArray, List.set_cons_zero, List.set_cons_succ]
          refine wpAnyH_take (i := 3) (v := ?_) rfl (by kernel_rfl) (by kernel_rfl) (by kernel_rfl) (fun _ _ _ h => h) (Or.inl ⟨by rfl, ?_⟩) hS ?_
          rotate_left 1
          · intro w' hSw
            go_simp <;> with_reducible rfl
          try simp only [List.getElem_toArray, List.getElem_cons_zero, List.getElem_cons_succ, Act.put, List.setIfInBounds_toArray, List.set_cons_zero, List.set_cons_succ]
          refine wpAnyH_take (i := 4) (v := ?_) rfl (by kernel_rfl) (by kernel_rfl) (by kernel_rfl) (fun _ _ _ h => h) (Or.inl ⟨by rfl, ?_⟩) hS ?_
          rotate_left 1
          · intro w' hSw
            go_simp <;> with_reducible rfl
          try simp only [List.getElem_toArray, List.getElem_cons_zero, List.getElem_cons_succ, Act.put, List.setIfInBounds_toArray, List.set_cons_zero, List.set_cons_succ]
          refine wpAnyH_take (i := 5) (v := undef) rfl (by kernel_rfl) (by kernel_rfl) (by kernel_rfl) (fun _ _ _ h => h) (Or.inr ⟨by go_simp, rfl⟩) hS ?_
          try simp only [List.getElem_toArray, List.getElem_cons_zero, List.getElem_cons_succ, Act.put, List.setIfInBounds_toArray, List.set_cons_zero, List.set_cons_succ]
          refine wpAnyH_take (i := 6) (v := undef) rfl (by kernel_rfl) (by kernel_rfl) (by kernel_rfl) (fun _ _ _ h => h) (Or.inr ⟨by go_simp, rfl⟩) hS ?_
          try simp only [List.getElem_toArray, List.getElem_cons_zero, List.getElem_cons_succ, Act.put, List.setIfInBounds_toArray, List.set_cons_zero, List.set_cons_succ]
          refine wpAnyH_take (i := 7) (v := undef) rfl (by kernel_rfl) (by kernel_rfl) (by kernel_rfl) (fun _ _ _ h => h) (Or.inr ⟨by go_simp, rfl⟩) hS ?_
          try simp only [List.getElem_toArray, List.getElem_cons_zero, List.getElem_cons_succ, Act.put, List.setIfInBounds_toArray, List.set_cons_zero, List.set_cons_succ]
          refine wpAnyH_take (i := 8) (v := undef) rfl (by kernel_rfl) (by kernel_rfl) (by kernel_rfl) (fun _ _ _ h => h) (Or.inr ⟨by go_simp, rfl⟩) hS ?_
          try simp only [List.getElem_toArray, List.getElem_cons_zero, List.getElem_cons_succ, Act.put, List.setIfInBounds_toArray, List.set_cons_zero, List.set_cons_succ]
          refine wpAnyH_take (i := 9) (v := undef) rfl (by kernel_rfl) (by kernel_rfl) (by kernel_rfl) (fun _ _ _ h => h) (Or.inr ⟨by go_simp, rfl⟩) hS ?_
          try simp only [List.getElem_toArray, List.getElem_cons_zero, List.getElem_cons_succ, Act.put, List.setIfInBounds_toArray, List.set_cons_zero, List.set_cons_succ]
          refine wpAnyH_take (i := 10) (v := undef) rfl (by kernel_rfl) (by kernel_rfl) (by kernel_rfl) (fun _ _ _ h => h) (Or.inr ⟨by go_simp, rfl⟩) hS ?_
          try simp only [List.getElem_toArray, List.getElem_cons_zero, List.getElem_cons_succ, Act.put, List.setIfInBounds_toArray, List.set_cons_zero, List.set_cons_succ]
          refine wpAnyH_take (i := 11) (v := ?_) rfl (by kernel_rfl) (by kernel_rfl) (by kernel_rfl) (fun _ _ _ h => h) (Or.inl ⟨by rfl, ?_⟩) hS ?_
          rotate_left 1
          · intro w' hSw
            go_simp <;> with_reducible rfl
          try simp only [List.getElem_toArray, List.getElem_cons_zero, List.getElem_cons_succ, Act.put, List.setIfInBounds_toArray, List.set_cons_zero, List.set_cons_succ]
          refine wpAnyH_done (by kernel_rfl) ?_ _
          go_ways
          have hw2 : Below wr.heap.size wr wr.drew.drew := (Below.refl _ _).drew.drew
          generalize wr.drew.drew = wz at *
          have hmk := World.ownsRow_made (base := wz.heap.size) (e := 38) (size := 2) wz #[] 0 (Nat.le_refl _) (by decide) rfl
          obtain ⟨n1, n2⟩ := owns_none hrx
          cases A with
          | some ag =>
            obtain ⟨e0, e1, e2, e3, e4, e5⟩ := n2 ag rfl
            clear n1 n2
            obtain ⟨g2, go, gf⟩ := ag
            injection e0 with _ e6 e7
            subst e6 e7
            dsimp only at e1 e2
            clear e5
            obtain ⟨ad, had⟩ : ∃ ad, (if c = j then some (⟨g2, 0, none⟩ : Addr) else some ⟨g2, j * 2, none⟩) = some ad := by
              by_cases hck : c = j
              · exact ⟨_, if_pos hck⟩
              · exact ⟨_, if_neg hck⟩
            have hnz : ∀ a, some ad = some a → ∀ q u, (lkC (L.drop j))[q]? = some u → (wz.alloc (.cells #[] 38)).cell? (a.add q) = some u := by
              intro a e q u hu
              rw [List.drop_eq_nil_of_le (by have := HJL.out; omega)] at hu
              cases hu
            have HR9 := Lib.hid hrx
            clear hrx hro
            go_wp2_with (at_builtin; refine wpList_append_ownA (by rfl) (.tmp 60) (.tmp 63) 36 (by rfl) wz.heap.size 38 i0 _ 2 16 Tryz.underlying36 hi hz0 hz1 hz2 rfl (by decide) _ 0 [] (by rfl) hmk (some ad) (L.length - j) (c - j) (lkC (L.drop j)) (by rfl) (by rw [lkC_len, List.length_drop]) (fun e => by cases e) hnz (lkC_one _) (by unfold maxLen; omega) (by omega) (by simp) ?_; intro v1 w1 hr1 hgr1)
            rw [Nat.zero_add, List.nil_append] at hr1
            obtain ⟨A3, c3, rfl⟩ := owns_form hr1
            have hb1 : Below wz.heap.size wz w1 := ((Below.refl _ _).alloc (Nat.le_refl _) _).grown hgr1 (by simp) (fun q e => by have e : some wz.heap.size = some q := e; injection e with e; omega)
            clear hmk hnz hgr1
            have hzw : wr.heap.size ≤ wz.heap.size := hw2.size
            have hX1 : ∀ W', Below wz.heap.size wz W' → W'.cell? ⟨XB, 0, none⟩ = some (.int .i64 p.a) ∧ W'.cell? ⟨XB, 1, none⟩ = some (.int .i64 p.b) := by
              intro W' hW'
              have q1 := ((hXx.below hw2 hXx.lt).below hW' (Nat.lt_of_lt_of_le hXx.lt hzw)).cell 0
              have q2 := ((hXx.below hw2 hXx.lt).below hW' (Nat.lt_of_lt_of_le hXx.lt hzw)).cell 1
              exact ⟨by simpa using q1, by simpa using q2⟩
            go_wp2_with fail
            refine wp_region_held_drew (S := fun w' => True) (by kernel_rfl) trivial (fun hS => ?_)
            obtain ⟨x1, x2⟩ := hX1 _ hb1.drew
            refine wpAnyH_take (i := 0) (v := ?_) rfl (by kernel_rfl) (by kernel_rfl) (by kernel_rfl) (fun _ _ _ h => h) (Or.inl ⟨by rfl, ?_⟩) hS ?_
            rotate_left 1
            · intro w' hSw
              go_simp <;> with_reducible rfl
            try simp only [List.getElem_toArray, List.getElem_cons_zero, List.getElem_cons_succ, Act.put, List.setIfInBounds_toArray, List.set_cons_zero, List.set_cons_succ]
            refine wpAnyH_take (i := 1) (v := ?_) rfl (by kernel_rfl) (by kernel_rfl) (by kernel_rfl) (fun _ _ _ h => h) (Or.inl ⟨by rfl, ?_⟩) hS ?_
            rotate_left 1
            · intro w' hSw
              go_simp <;> with_reducible rfl
            try simp only [List.getElem_toArray, List.getElem_cons_zero, List.getElem_cons_succ, Act.put, List.setIfInBounds_toArray, List.set_cons_zero, List.set_cons_succ]
            refine wpAnyH_take (i := 2) (v := ?_) rfl (by kernel_rfl) (by kernel_rfl) (by kernel_rfl) (fun _ _ _ h => h) (Or.inl ⟨by rfl, ?_⟩) hS ?_
            rotate_left 1
            · intro w' hSw
              go_simp
              try rw [if_pos (show j ≤ c by omega)]
              try with_reducible rfl
            try simp only [List.getElem_toArray, List.getElem_cons_zero, List.getElem_cons_succ, Act.put, List.setIfInBounds_toArray, List.set_cons_zero, List.set_cons_succ]
            refine wpAnyH_take (i := 6) (v := ?_) rfl (by kernel_rfl) (by kernel_rfl) (by kernel_rfl) (fun _ _ _ h => h) (Or.inl ⟨by rfl, ?_⟩) hS ?_
            rotate_left 1
            · intro w' hSw
              go_simp <;> with_reducible rfl
            try simp only [List.getElem_toArray, List.getElem_cons_zero, List.getElem_cons_succ, Act.put, List.setIfInBounds_toArray, List.set_cons_zero, List.set_cons_succ]
            refine wpAnyH_ready (rs := [3]) (by kernel_rfl) (by simp) (AllReadyH.cons rfl (fun K hK => ?_) AllReadyH.nil)
            go_simp
            refine hK _ _ trivial (fun hS => ?_)
            clear hK K
            try simp only [List.getElem_toArray, List.getElem_cons_zero, List.getElem_cons_succ, Act.put, List.setIfInBounds_toArray, List.set_cons_zero, List.set_cons_succ]
            refine wpAnyH_ready (rs := [4]) (by kernel_rfl) (by simp) (AllReadyH.cons rfl (fun K hK => ?_) AllReadyH.nil)
            go_simp
            have hb4 : Below wz.heap.size wz (w1.alloc (.cells #[.int .i64 p.a, .int .i64 p.b] 38)).drew := (hb1.alloc hb1.size _).drew
            have hn4 := news_new w1 [.int .i64 p.a, .int .i64 p.b] 38
            have hs4 : (w1.alloc (.cells #[.int .i64 p.a, .int .i64 p.b] 38)).drew.heap.size = w1.heap.size + 1 := World.size_alloc _ _
            have hr4 : (w1.alloc (.cells #[.int .i64 p.a, .int .i64 p.b] 38)).drew.ownsRow wz.heap.size 38 2 (.slice A3 (L.length - j) c3) (L.length - j) (lkC (L.drop j)) := owns_keep hr1 (fun q e => heap_alloc_old w1 _ (owns_lt hr1 q e))
            refine hK _ _ trivial (fun hS => ?_)
            clear hK K
            rw [show [Value.int .i64 p.a, Value.int .i64 p.b].toArray = #[Value.int .i64 p.a, Value.int .i64 p.b] from rfl] at hn4
            have hn4 : ∀ j u, [Value.int .i64 p.a, Value.int .i64 p.b][j]? = some u → (w1.alloc (.cells #[.int .i64 p.a, .int .i64 p.b] 38)).drew.cell? ((⟨w1.heap.size, 0, none⟩ : Addr).add j) = some u := hn4
            generalize (w1.alloc (.cells #[.int .i64 p.a, .int .i64 p.b] 38)).drew = w4 at *
            try simp only [List.getElem_toArray, List.getElem_cons_zero, List.getElem_cons_succ, Act.put, List.setIfInBounds_toArray, List.set_cons_zero, List.set_cons_succ]
            refine wpAnyH_ready (rs := [5]) (by kernel_rfl) (by simp) (AllReadyH.cons rfl (fun K hK => ?_) AllReadyH.nil)
            have hrz : w4.ownsRow w.heap.size 38 2 (Value.slice (some ⟨g2, 0, none⟩) L.length c) L.length (lkC L) := owns_keep HR9.out (fun q e => ((hw2.block q (owns_lt HR9.out q e)).symm.trans (hb4.block q (Nat.lt_of_lt_of_le (owns_lt HR9.out q e) hzw)).symm).symm)
            refine step_append_ownA (by rfl) (.tmp 67) (.tmp 69) 36 (by rfl) w.heap.size 38 i0 _ 2 16 Tryz.underlying36 hi hz0 hz1 hz2 rfl (by decide) _ j _ (by rfl) (owns_take hrz j hj) (some ⟨w1.heap.size, 0, none⟩) 1 1 [.int .i64 p.a, .int .i64 p.b] (by rfl) rfl (fun e => by cases e) (fun ad e => by injection e with e; subst e; exact hn4) (fun u hu => by simp at hu; rcases hu with rfl | rfl <;> rfl) (by unfold maxLen; omega) (by omega) (Nat.le_trans HR.out.bel.size (by have := hbo.size; have := hbx.size; have := hb4.size; omega)) ?_
            intro v5 w5 hr5 hgr5
            obtain ⟨A5, c5, rfl⟩ := owns_form hr5
            have hg5 : ∀ q, (Value.slice (some ⟨g2, 0, none⟩) L.length c).ownBlock = some q → w.heap.size ≤ q ∧ q < wz.heap.size := fun q e => ⟨(owns_block HR9.out q e).1, Nat.lt_of_lt_of_le (owns_lt HR9.out q e) hzw⟩
            have hwz : w.heap.size ≤ wz.heap.size := Nat.le_trans HR.out.bel.size (by have := hbo.size; have := hbx.size; omega)
            have hbw : Below w.heap.size w wz := HR.out.bel.trans ((hbo.trans ((hbx.trans (hw2.mono hbx.size)).mono hbo.size)).mono HR.out.bel.size)
            have hb5 : Below w.heap.size w w5 := (hbw.trans (hb4.mono hwz)).grown hgr5 (by have := hb4.size; omega) (fun q e => (hg5 q e).1)
            have hr45 : w5.ownsRow wz.heap.size 38 2 (.slice A3 (L.length - j) c3) (L.length - j) (lkC (L.drop j)) := hr4.kept hgr5 (by
              rcases hr4.2 with ⟨e, _⟩ | ⟨g3, cap, cur, e, hb3, _⟩
              · left; rw [e]; rfl
              · right
                rw [e]
                intro e2
                have := (hg5 g3 e2.symm).2
                omega)
            have hs5 : wz.heap.size ≤ w5.heap.size := Nat.le_trans hb4.size hgr5.size
            refine hK _ _ trivial (fun hS => ?_)
            clear hK K hr4 hgr5 hrz hn4 hs4
            try simp only [List.getElem_toArray, List.getElem_cons_zero, List.getElem_cons_succ, Act.put, List.setIfInBounds_toArray, List.set_cons_zero, List.set_cons_succ]
            refine wpAnyH_ready (rs := [7]) (by kernel_rfl) (by simp) (AllReadyH.cons rfl (fun K hK => ?_) AllReadyH.nil)
            obtain ⟨n1, n2⟩ := owns_none hr45
            refine step_append_ownA (by rfl) (.tmp 70) (.tmp 71) 36 (by rfl) w.heap.size 38 i0 _ 2 16 Tryz.underlying36 hi hz0 hz1 hz2 rfl (by decide) _ (j + 1) _ (by rfl) hr5 A3 (L.length - j) c3 (lkC (L.drop j)) (by rfl) (by rw [lkC_len, List.length_drop]) n1 (fun ad e => (n2 ad e).2.2.2.2.2) (lkC_one _) (by unfold maxLen; omega) (by omega) (by omega) ?_
            intro v7 w7 hr7 hgr7
            have hb7 : Below w.heap.size w w7 := hb5.grown hgr7 (by omega) (fun q e => (owns_block hr5 q e).1)
            have hlist : (lkC L).take (j * 2) ++ [.int .i64 p.a, .int .i64 p.b] ++ lkC (L.drop j) = lkC (insL L j (p.a, p.b)) := by
              rw [lkC_take _ _ hj]
              unfold insL
              rw [lkC_app, lkC_app]
              rfl
            have hlen7 : j + 1 + (L.length - j) = (insL L j (p.a, p.b)).length := by rw [insL_len _ _ _ hj]; omega
            rw [hlist, hlen7] at hr7
            refine hK _ _ trivial (fun hS => ?_)
            clear hK K hgr7 hlist hr5 hr45 n1 n2
            try simp only [List.getElem_toArray, List.getElem_cons_zero, List.getElem_cons_succ, Act.put, List.setIfInBounds_toArray, List.set_cons_zero, List.set_cons_succ]
            refine wpAnyH_ready (rs := [8]) (by kernel_rfl) (by simp) (AllReadyH.cons rfl (fun K hK => ?_) AllReadyH.nil)
            go_simp
            refine hK _ _ trivial (fun hS => ?_)
            clear hK K
            try simp only [List.getElem_toArray, List.getElem_cons_zero, List.getElem_cons_succ, Act.put, List.setIfInBounds_toArray, List.set_cons_zero, List.set_cons_succ]
            refine wpAnyH_done (by kernel_rfl) ?_ _
            go_ways
            go_wp2_with fail
            go_roundw
            case rel =>
              refine ⟨k + 1, _, by omega, by go_num, ⟨hon, ?_, hr7, hb7⟩⟩
              intro q hqm
              unfold insL at hqm
              simp only [List.append_assoc, List.mem_append, List.mem_cons, List.not_mem_nil, or_false] at hqm
              rcases hqm with hqm | rfl | hqm
              · exact HR.out.i64 q (List.mem_of_mem_take hqm)
              · exact HA64.out
              · exact HR.out.i64 q (List.mem_of_mem_drop hqm)
            case measure => simp [intOf]; omega
          | none =>
            obtain ⟨e0, rfl⟩ := n1 rfl
            clear n1 n2
            obtain rfl : L = [] := List.eq_nil_of_length_eq_zero e0
            obtain rfl : j = 0 := by omega
            have hnz : ∀ a, (none : Option Addr) = some a → ∀ q u, (lkC (([] : List (Int × Int)).drop 0))[q]? = some u → (wz.alloc (.cells #[] 38)).cell? (a.add q) = some u := by
              intro a e
              cases e
            have HR9 := Lib.hid hrx
            clear hrx hro
            go_wp2_with (at_builtin; refine wpList_append_ownA (by rfl) (.tmp 60) (.tmp 63) 36 (by rfl) wz.heap.size 38 i0 _ 2 16 Tryz.underlying36 hi hz0 hz1 hz2 rfl (by decide) _ 0 [] (by rfl) hmk none 0 0 (lkC (([] : List (Int × Int)).drop 0)) (by rfl) (by rfl) (fun _ => ⟨rfl, rfl⟩) hnz (lkC_one _) (by unfold maxLen; omega) (by omega) (by simp) ?_; intro v1 w1 hr1 hgr1)
            rw [Nat.zero_add, List.nil_append] at hr1
            obtain ⟨A3, c3, rfl⟩ := owns_form hr1
            have hb1 : Below wz.heap.size wz w1 := ((Below.refl _ _).alloc (Nat.le_refl _) _).grown hgr1 (by simp) (fun q e => by have e : some wz.heap.size = some q := e; injection e with e; omega)
            clear hmk hnz hgr1
            have hzw : wr.heap.size ≤ wz.heap.size := hw2.size
            have hX1 : ∀ W', Below wz.heap.size wz W' → W'.cell? ⟨XB, 0, none⟩ = some (.int .i64 p.a) ∧ W'.cell? ⟨XB, 1, none⟩ = some (.int .i64 p.b) := by
              intro W' hW'
              have q1 := ((hXx.below hw2 hXx.lt).below hW' (Nat.lt_of_lt_of_le hXx.lt hzw)).cell 0
              have q2 := ((hXx.below hw2 hXx.lt).below hW' (Nat.lt_of_lt_of_le hXx.lt hzw)).cell 1
              exact ⟨by simpa using q1, by simpa using q2⟩
            go_wp2_with fail
            refine wp_region_held_drew (S := fun w' => True) (by kernel_rfl) trivial (fun hS => ?_)
            obtain ⟨x1, x2⟩ := hX1 _ hb1.drew
            refine wpAnyH_take (i := 0) (v := ?_) rfl (by kernel_rfl) (by kernel_rfl) (by kernel_rfl) (fun _ _ _ h => h) (Or.inl ⟨by rfl, ?_⟩) hS ?_
            rotate_left 1
            · intro w' hSw
              go_simp <;> with_reducible rfl
            try simp only [List.getElem_toArray, List.getElem_cons_zero, List.getElem_cons_succ, Act.put, List.setIfInBounds_toArray, List.set_cons_zero, List.set_cons_succ]
            refine wpAnyH_take (i := 1) (v := ?_) rfl (by kernel_rfl) (by kernel_rfl) (by kernel_rfl) (fun _ _ _ h => h) (Or.inl ⟨by rfl, ?_⟩) hS ?_
            rotate_left 1
            · intro w' hSw
              go_simp <;> with_reducible rfl
            try simp only [List.getElem_toArray, List.getElem_cons_zero, List.getElem_cons_succ, Act.put, List.setIfInBounds_toArray, List.set_cons_zero, List.set_cons_succ]
            refine wpAnyH_take (i := 2) (v := ?_) rfl (by kernel_rfl) (by kernel_rfl) (by kernel_rfl) (fun _ _ _ h => h) (Or.inl ⟨by rfl, ?_⟩) hS ?_
            rotate_left 1
            · intro w' hSw
              go_simp
              try rw [if_pos (show 0 ≤ c by omega)]
              try with_reducible rfl
            try simp only [List.getElem_toArray, List.getElem_cons_zero, List.getElem_cons_succ, Act.put, List.setIfInBounds_toArray, List.set_cons_zero, List.set_cons_succ]
            refine wpAnyH_take (i := 6) (v := ?_) rfl (by kernel_rfl) (by kernel_rfl) (by kernel_rfl) (fun _ _ _ h => h) (Or.inl ⟨by rfl, ?_⟩) hS ?_
            rotate_left 1
            · intro w' hSw
              go_simp <;> with_reducible rfl
            try simp only [List.getElem_toArray, List.getElem_cons_zero, List.getElem_cons_succ, Act.put, List.setIfInBounds_toArray, List.set_cons_zero, List.set_cons_succ]
            refine wpAnyH_ready (rs := [3]) (by kernel_rfl) (by simp) (AllReadyH.cons rfl (fun K hK => ?_) AllReadyH.nil)
            go_simp
            refine hK _ _ trivial (fun hS => ?_)
            clear hK K
            try simp only [List.getElem_toArray, List.getElem_cons_zero, List.getElem_cons_succ, Act.put, List.setIfInBounds_toArray, List.set_cons_zero, List.set_cons_succ]
            refine wpAnyH_ready (rs := [4]) (by kernel_rfl) (by simp) (AllReadyH.cons rfl (fun K hK => ?_) AllReadyH.nil)
            go_simp
            have hb4 : Below wz.heap.size wz (w1.alloc (.cells #[.int .i64 p.a, .int .i64 p.b] 38)).drew := (hb1.alloc hb1.size _).drew
            have hn4 := news_new w1 [.int .i64 p.a, .int .i64 p.b] 38
            have hs4 : (w1.alloc (.cells #[.int .i64 p.a, .int .i64 p.b] 38)).drew.heap.size = w1.heap.size + 1 := World.size_alloc _ _
            have hr4 : (w1.alloc (.cells #[.int .i64 p.a, .int .i64 p.b] 38)).drew.ownsRow wz.heap.size 38 2 (.slice A3 0 c3) 0 (lkC (([] : List (Int × Int)).drop 0)) := owns_keep hr1 (fun q e => heap_alloc_old w1 _ (owns_lt hr1 q e))
            refine hK _ _ trivial (fun hS => ?_)
            clear hK K
            rw [show [Value.int .i64 p.a, Value.int .i64 p.b].toArray = #[Value.int .i64 p.a, Value.int .i64 p.b] from rfl] at hn4
            have hn4 : ∀ j u, [Value.int .i64 p.a, Value.int .i64 p.b][j]? = some u → (w1.alloc (.cells #[.int .i64 p.a, .int .i64 p.b] 38)).drew.cell? ((⟨w1.heap.size, 0, none⟩ : Addr).add j) = some u := hn4
            generalize (w1.alloc (.cells #[.int .i64 p.a, .int .i64 p.b] 38)).drew = w4 at *
            try simp only [List.getElem_toArray, List.getElem_cons_zero, List.getElem_cons_succ, Act.put, List.setIfInBounds_toArray, List.set_cons_zero, List.set_cons_succ]
            refine wpAnyH_ready (rs := [5]) (by kernel_rfl) (by simp) (AllReadyH.cons rfl (fun K hK => ?_) AllReadyH.nil)
            have hrz : w4.ownsRow w.heap.size 38 2 (Value.slice none 0 0) 0 (lkC ([] : List (Int × Int))) := owns_keep HR9.out (fun q e => ((hw2.block q (owns_lt HR9.out q e)).symm.trans (hb4.block q (Nat.lt_of_lt_of_le (owns_lt HR9.out q e) hzw)).symm).symm)
            refine step_append_ownA (by rfl) (.tmp 67) (.tmp 69) 36 (by rfl) w.heap.size 38 i0 _ 2 16 Tryz.underlying36 hi hz0 hz1 hz2 rfl (by decide) _ 0 _ (by rfl) (owns_take hrz 0 hj) (some ⟨w1.heap.size, 0, none⟩) 1 1 [.int .i64 p.a, .int .i64 p.b] (by rfl) rfl (fun e => by cases e) (fun ad e => by injection e with e; subst e; exact hn4) (fun u hu => by simp at hu; rcases hu with rfl | rfl <;> rfl) (by unfold maxLen; omega) (by omega) (Nat.le_trans HR.out.bel.size (by have := hbo.size; have := hbx.size; have := hb4.size; omega)) ?_
            intro v5 w5 hr5 hgr5
            obtain ⟨A5, c5, rfl⟩ := owns_form hr5
            have hg5 : ∀ q, (Value.slice none 0 0).ownBlock = some q → w.heap.size ≤ q ∧ q < wz.heap.size := fun q e => ⟨(owns_block HR9.out q e).1, Nat.lt_of_lt_of_le (owns_lt HR9.out q e) hzw⟩
            have hwz : w.heap.size ≤ wz.heap.size := Nat.le_trans HR.out.bel.size (by have := hbo.size; have := hbx.size; omega)
            have hbw : Below w.heap.size w wz := HR.out.bel.trans ((hbo.trans ((hbx.trans (hw2.mono hbx.size)).mono hbo.size)).mono HR.out.bel.size)
            have hb5 : Below w.heap.size w w5 := (hbw.trans (hb4.mono hwz)).grown hgr5 (by have := hb4.size; omega) (fun q e => (hg5 q e).1)
            have hr45 : w5.ownsRow wz.heap.size 38 2 (.slice A3 0 c3) 0 (lkC (([] : List (Int × Int)).drop 0)) := hr4.kept hgr5 (by
              rcases hr4.2 with ⟨e, _⟩ | ⟨g3, cap, cur, e, hb3, _⟩
              · left; rw [e]; rfl
              · right
                rw [e]
                intro e2
                have := (hg5 g3 e2.symm).2
                omega)
            have hs5 : wz.heap.size ≤ w5.heap.size := Nat.le_trans hb4.size hgr5.size
            refine hK _ _ trivial (fun hS => ?_)
            clear hK K hr4 hgr5 hrz hn4 hs4
            try simp only [List.getElem_toArray, List.getElem_cons_zero, List.getElem_cons_succ, Act.put, List.setIfInBounds_toArray, List.set_cons_zero, List.set_cons_succ]
            refine wpAnyH_ready (rs := [7]) (by kernel_rfl) (by simp) (AllReadyH.cons rfl (fun K hK => ?_) AllReadyH.nil)
            obtain ⟨n1, n2⟩ := owns_none hr45
            refine step_append_ownA (by rfl) (.tmp 70) (.tmp 71) 36 (by rfl) w.heap.size 38 i0 _ 2 16 Tryz.underlying36 hi hz0 hz1 hz2 rfl (by decide) _ (0 + 1) _ (by rfl) hr5 A3 0 c3 (lkC (([] : List (Int × Int)).drop 0)) (by rfl) (by rfl) n1 (fun ad e => (n2 ad e).2.2.2.2.2) (lkC_one _) (by unfold maxLen; omega) (by omega) (by omega) ?_
            intro v7 w7 hr7 hgr7
            have hb7 : Below w.heap.size w w7 := hb5.grown hgr7 (by omega) (fun q e => (owns_block hr5 q e).1)
            have hlist : (lkC ([] : List (Int × Int))).take (0 * 2) ++ [.int .i64 p.a, .int .i64 p.b] ++ lkC (([] : List (Int × Int)).drop 0) = lkC (insL ([] : List (Int × Int)) 0 (p.a, p.b)) := by
              rw [lkC_take _ _ hj]
              unfold insL
              rw [lkC_app, lkC_app]
              rfl
            have hlen7 : 0 + 1 + 0 = (insL ([] : List (Int × Int)) 0 (p.a, p.b)).length := by rw [insL_len _ _ _ hj]; omega
            rw [hlist, hlen7] at hr7
            refine hK _ _ trivial (fun hS => ?_)
            clear hK K hgr7 hlist hr5 hr45 n1 n2
            try simp only [List.getElem_toArray, List.getElem_cons_zero, List.getElem_cons_succ, Act.put, List.setIfInBounds_toArray, List.set_cons_zero, List.set_cons_succ]
            refine wpAnyH_ready (rs := [8]) (by kernel_rfl) (by simp) (AllReadyH.cons rfl (fun K hK => ?_) AllReadyH.nil)
            go_simp
            refine hK _ _ trivial (fun hS => ?_)
            clear hK K
            try simp only [List.getElem_toArray, List.getElem_cons_zero, List.getElem_cons_succ, Act.put, List.setIfInBounds_toArray, List.set_cons_zero, List.set_cons_succ]
            refine wpAnyH_done (by kernel_rfl) ?_ _
            go_ways
            go_wp2_with fail
            go_roundw
            case rel =>
              refine ⟨k + 1, _, by omega, by go_num, ⟨hon, ?_, hr7, hb7⟩⟩
              intro q hqm
              unfold insL at hqm
              simp only [List.append_assoc, List.mem_append, List.mem_cons, List.not_mem_nil, or_false] at hqm
              rcases hqm with hqm | rfl | hqm
              · exact HR.out.i64 q (List.mem_of_mem_take hqm)
              · exact HA64.out
              · exact HR.out.i64 q (List.mem_of_mem_drop hqm)
            case measure => simp [intOf]; omega
    · have d1 : decide ((k : Int) < (P.length : Int)) = false := decide_eq_false (by omega)
      obtain rfl : k = P.length := by omega
      go_wp2_with fail
      go_ret
      exact ⟨_, L, rfl, HR.out⟩
end Go.Proofs.YtenkhbiikecegaaGreat

