/- LogLives: over this seat's program. -/
import Derived.Test.YtcbomcbflmgmhaaGreatKStep
import Derived.Test.YtcbomcbflmgmhaaGreatAwake
namespace Go.Proofs.YtcbomcbflmgmhaaGreat
open Go.RowKit
set_option linter.unusedVariables false
set_option maxRecDepth 100000

/-- One step. -/
structure Dst where
  op : Int
  idx : Int
  t : Int
  most : Int
  ns : List En
def doV (x : Dst) (A : Option Addr) (c : Nat) : List Value := [.int .i64 x.op, .int .i64 x.idx, .int .i64 x.t, .int .i64 x.most, .slice A x.ns.length c]
def DoAt (w : World) (K : Nat → Prop) (a : Addr) (x : Dst) : Prop := ∃ A c, K a.block ∧ (∀ j, j < 5 → w.cell? (a.add j) = (doV x A c)[j]?) ∧ Ents w K A c x.ns
/-- A slice of steps. -/
def Dos (w : World) (K : Nat → Prop) (A : Option Addr) (c : Nat) (xs : List Dst) : Prop :=
  (A = none → c = 0) ∧ xs.length ≤ c ∧ c ≤ maxLen ∧ (xs ≠ [] → ∃ a, A = some a ∧ ∀ i x, xs[i]? = some x → DoAt w K (a.add (i * 5)) x)
theorem Dos.keep {w w' : World} {K : Nat → Prop} {A : Option Addr} {c : Nat} {xs : List Dst} (h : Dos w K A c xs) (hk : ∀ b, K b → w'.heap[b]? = w.heap[b]?) : Dos w' K A c xs := by
  obtain ⟨h1, h2, h3, h4⟩ := h
  refine ⟨h1, h2, h3, fun hx => ?_⟩
  obtain ⟨a, e, hc⟩ := h4 hx
  refine ⟨a, e, fun i x hi => ?_⟩
  obtain ⟨A', c', q1, q2, q3⟩ := hc i x hi
  exact ⟨A', c', q1, fun j hj => (World.cell?_of_block (by rw [add_blk]; exact hk _ q1)).trans (q2 j hj), q3.keep hk (fun _ h => h)⟩
theorem Dos.at_ {w : World} {K : Nat → Prop} {A : Option Addr} {c : Nat} {xs : List Dst} (h : Dos w K A c xs) {k : Nat} (hk : k < xs.length) :
    ∃ a x D d, A = some a ∧ K a.block ∧ Hid (xs[k]? = some x) ∧ (∀ j, j < 5 → w.cell? ((a.add (k * 5)).add j) = (doV x D d)[j]?) ∧ Ents w K D d x.ns := by
  obtain ⟨a, e, hc⟩ := h.2.2.2 (by rintro rfl; simp at hk)
  obtain ⟨D, d, hb, hcell, hr⟩ := hc k _ (List.getElem?_eq_getElem hk)
  rw [add_blk] at hb
  exact ⟨a, _, D, d, e, hb, List.getElem?_eq_getElem hk, hcell, hr⟩
theorem do5 {w : World} {p : Addr} {x : Dst} {D : Option Addr} {d : Nat} (h : ∀ j, j < 5 → w.cell? (p.add j) = (doV x D d)[j]?) :
    w.cell? p = some (.int .i64 x.op) ∧ w.cell? ⟨p.block, p.off + 1, none⟩ = some (.int .i64 x.idx) ∧ w.cell? ⟨p.block, p.off + 2, none⟩ = some (.int .i64 x.t) ∧ w.cell? ⟨p.block, p.off + 3, none⟩ = some (.int .i64 x.most) ∧ w.cell? ⟨p.block, p.off + 4, none⟩ = some (.slice D x.ns.length d) :=
  ⟨h 0 (by omega), h 1 (by omega), h 2 (by omega), h 3 (by omega), h 4 (by omega)⟩
theorem from_all (es : List En) (n : Int) (h : (es.length : Int) ≤ n) : (fromI es 1).take n.toNat = es := by
  unfold fromI
  rw [if_pos (by omega)]
  exact List.take_of_length_le (by simp; omega)
/-- The two logs, made since w, with the same entries. -/
def Inv (w : World) (p q : Nat) (es : List En) (wr : World) : Prop :=
  ∃ S R : Nat → Prop, LogS S wr p es ∧ RefS R wr q es ∧ (∀ b, S b → ¬ R b) ∧ (∀ b, S b → w.heap.size ≤ b ∧ b < wr.heap.size) ∧ (∀ b, R b → w.heap.size ≤ b ∧ b < wr.heap.size) ∧ Below w.heap.size w wr
theorem Inv.below {w wr wr' : World} {p q : Nat} {es : List En} (h : Inv w p q es wr) (hb : Below wr.heap.size wr wr') : Inv w p q es wr' := by
  obtain ⟨S, R, k1, k2, k3, k4, k5, k6⟩ := h
  exact ⟨S, R, k1.below hb, k2.below hb, k3, fun b hb' => ⟨(k4 b hb').1, Nat.lt_of_lt_of_le (k4 b hb').2 hb.size⟩, fun b hb' => ⟨(k5 b hb').1, Nat.lt_of_lt_of_le (k5 b hb').2 hb.size⟩, k6.trans (hb.mono k6.size)⟩
theorem Inv.low {w wr : World} {p q : Nat} {es : List En} (h : Inv w p q es wr) : Below w.heap.size w wr := let ⟨_, _, _, _, _, _, _, h⟩ := h; h
theorem Inv.step {w wr w' : World} {p q : Nat} {es es' : List En} {S R : Nat → Prop} (k4 : ∀ b, S b → w.heap.size ≤ b ∧ b < wr.heap.size) (k5 : ∀ b, R b → w.heap.size ≤ b ∧ b < wr.heap.size) (k6 : Below w.heap.size w wr) (h : TwoS S R wr p q es' es' w') : Inv w p q es' w' := by
  obtain ⟨S', R', h1, h2, h3, h4, h5, h6⟩ := h
  have hs := h6.size
  have hs6 := k6.size
  refine ⟨S', R', h1, h2, h3, fun b hb => (h4 b hb).elim (fun h => ⟨(k4 b h).1, Nat.lt_of_lt_of_le (k4 b h).2 hs⟩) (fun h => ⟨by have := h.1; omega, h.2⟩), fun b hb => (h5 b hb).elim (fun h => ⟨(k5 b h).1, Nat.lt_of_lt_of_le (k5 b h).2 hs⟩) (fun h => ⟨by have := h.1; omega, h.2⟩), k6.trans (h6.below hs6 (fun k hk => ⟨fun h => by have := (k4 k h).1; omega, fun h => by have := (k5 k h).1; omega⟩))⟩

set_option linter.unusedSimpArgs false in
set_option maxHeartbeats 8000000 in
theorem LogLives_any (K : Nat → Prop) (A : Option Addr) (c : Nat) (fs : List En) (B : Option Addr) (d : Nat) (xs : List Dst) (w : World) (ha : Ents w K A c fs) (hx : Dos w K B d xs) (hK : ∀ b, K b → b < w.heap.size) :
    Calls Tryz.prog 3 #[.slice A fs.length c, .slice B xs.length d] w fun e w' => e = .returned (.bool true) ∧ Below w.heap.size w w' := by
  have hxl : xs.length ≤ 9223372036854775807 := Nat.le_trans hx.2.1 (Nat.le_trans hx.2.2.1 (by decide))
  go_enter Tryz.func3, Tryz.ntmps3
  go_wp2_with fail
  refine (great_any K A c fs w ha).mono ?_
  rintro _ w0 ⟨gb, rfl, ⟨q0, rfl⟩, hsm⟩
  have hb0 := below_drewN w q0
  cases gb with
  | true =>
    go_wp2_with (go_at_call 6; refine (awake_any _).mono ?_; rintro _ w2 ⟨rfl, hb2⟩)
    go_ret
    exact ⟨rfl, hb0.trans hb2⟩
  | false =>
    obtain ⟨hf1, hf2⟩ := hsm rfl
    clear hsm
    generalize w.drewN q0 = w0 at *
    have ha0 := ha.keep (K' := K) (fun b hb' => hb0.block b (hK b hb')) (fun _ h => h)
    have hz0 := hb0.size
    go_wp2_with fail
    refine (LentEntries_any K A c fs w0 ha0 (fun b hb' => Nat.lt_of_lt_of_le (hK b hb') hz0) (by omega) (fun e he => Nat.le_trans (hf2 e he) (by omega))).mono ?_
    rintro _ w1 ⟨g, ds, rfl, hLn, hb1⟩
    have hz1 := hb1.size
    have hEn := hLn.ents (by unfold maxLen; omega) (fun e he => by have := hf2 e he; unfold maxLen; omega)
    go_wp2_with fail
    refine (NewS_any (some ⟨g, 0, none⟩) (fs.length + 12) fs w1 (hEn.keep (fun _ _ => rfl) (fun b hb' => hb'.2)) (by omega) (fun e he => Nat.le_trans (hf2 e he) (by omega))).mono ?_
    rintro _ w2 ⟨p, rfl, hL2, hb2⟩
    have hz2 := hb2.size
    have hb02 : Below w0.heap.size w0 w2 := hb1.trans (hb2.mono hz1)
    have ha2 := ha0.keep (K' := K) (fun b hb' => hb02.block b (Nat.lt_of_lt_of_le (hK b hb') hz0)) (fun _ h => h)
    go_wp2_with fail
    refine (refNew_any K A c fs w2 ha2 (fun b hb' => by have := hK b hb'; omega) (by omega) (fun e he => Nat.le_trans (hf2 e he) (by omega))).mono ?_
    rintro _ w3 ⟨q, rfl, hR3, hb3⟩
    have hz3 := hb3.size
    have hb13 : Below w1.heap.size w1 w3 := hb2.trans (hb3.mono hz2)
    have hb03 : Below w0.heap.size w0 w3 := hb1.trans (hb13.mono hz1)
    have hL3 : LentAt w3 w0.heap.size g fs ds := hLn.keep (fun b _ hl => hb13.block b hl)
    go_wp2_with fail
    refine (KeptEntries_true ⟨g, 0, none⟩ fs K A c w3 hL3.e (ha0.keep (K' := K) (fun b hb' => hb03.block b (Nat.lt_of_lt_of_le (hK b hb') hz0)) (fun _ h => h)) (fun b hb' => by have := hK b hb'; omega) (by omega) (fun e he => Nat.le_trans (hf2 e he) (by omega))).mono ?_
    rintro _ w4 ⟨rfl, hb4⟩
    have hz4 := hb4.size
    have hb14 : Below w1.heap.size w1 w4 := hb13.trans (hb4.mono hb13.size)
    have hO4 : OverS w4 w0.heap.size w1.heap.size g fs ds := hLn.over.keep (fun b _ hl => hb14.block b hl)
    go_wp2_with fail
    refine (OverEntries_any w0.heap.size w1.heap.size g fs ds w4 hO4 (by omega) (fun e he => Nat.le_trans (hf2 e he) (by omega))).mono ?_
    rintro _ w5 ⟨⟨r5, rfl⟩, h5⟩
    have hz5 := h5.size
    have hI0 : Inv w p q fs w5 := by
      refine ⟨Fresh w1 w2, Fresh w2 w3, (((hL2.below hb3).below hb4)).keep (h5.mono (fun b _ h1 h2 => by have := h1.1; omega)), (hR3.below hb4).keep (h5.mono (fun b _ h1 h2 => by have := h1.1; omega)), fun b h1 h2 => by have := h1.2; have := h2.1; omega, fun b h => ⟨by have := h.1; omega, by have := h.2; omega⟩, fun b h => ⟨by have := h.1; omega, by have := h.2; omega⟩, ?_⟩
      have hb04 : Below w.heap.size w w4 := hb0.trans ((hb03.trans (hb4.mono hb03.size)).mono hz0)
      exact hb04.trans (h5.below (by omega) (fun k hk h => by omega))
    have hD : Hid (∀ e ∈ fs, e.data.length ≤ 2407) := hf2
    clear hL2 hR3 h5 hO4 hb14 hb4 hL3 hb03 hb13 hb3 ha2 hb02 hb2 hEn hLn hb1 ha0 hf2
    go_wp2_with fail
    go_loopw [8] (fun i wr => ∃ (j : Nat) (es : List En), j ≤ 60 ∧ i = .int .i64 j ∧ es.length ≤ 300 + 300 * j ∧ Inv w p q es wr ∧ Hid (∀ e ∈ es, e.data.length ≤ 2407)) (fun i _ => 60 - (intOf i).toNat)
    case atStart => exact ⟨0, fs, by omega, rfl, by omega, hI0, hD⟩
    case round =>
      clear hI0 hD
      obtain ⟨j, es0, hj, rfl, hel0, hI0, hD0⟩ := hrel
      by_cases hlt : j < xs.length
      · by_cases hlt2 : j < 60
        · have d1 : decide ((j : Int) < (xs.length : Int)) = true := decide_eq_true (by omega)
          have d2 : decide ((j : Int) < 60) = true := decide_eq_true (by omega)
          have hxr : Dos wr K B d xs := hx.keep (fun b hb' => hI0.low.block b (hK b hb'))
          obtain ⟨a, x, D, dd, rfl, ka, hxx, ca, hEx⟩ := hxr.at_ hlt
          obtain ⟨b0, b1, b2, b3, b4⟩ := do5 ca
          clear ca hxr
          have hzr := hI0.low.size
          go_wp2_with fail
          refine (great_any K D dd x.ns wr hEx).mono ?_
          rintro _ w9 ⟨gb, rfl, ⟨q9, rfl⟩, hsm⟩
          have hb9 := below_drewN wr q9
          cases gb with
          | true =>
            go_wp2_with (go_at_call 6; refine (awake_any _).mono ?_; rintro _ w2 ⟨rfl, hb2⟩)
            go_ret
            exact ⟨rfl, hI0.low.trans ((hb9.trans (hb2.mono hb9.size)).mono hzr)⟩
          | false =>
            obtain ⟨hs1, hs2⟩ := hsm rfl
            clear hsm
            have kc : ∀ (p : Addr) u, wr.cell? p = some u → (wr.drewN q9).cell? p = some u := fun p u h => h
            replace b0 := kc _ _ b0
            replace b1 := kc _ _ b1
            replace b2 := kc _ _ b2
            replace b3 := kc _ _ b3
            replace b4 := kc _ _ b4
            clear kc
            have hId := hI0.below hb9
            have hEd := hEx.keep (w' := wr.drewN q9) (K' := K) (fun _ _ => rfl) (fun _ h => h)
            clear hEx hb9
            generalize wr.drewN q9 = wd at *
            obtain ⟨S, R, k1, k2, k3, k4, k5, k6⟩ := hId
            have hcon := step_any S R K wd p q es0 x.ns x.op x.idx x.t x.most D dd k1 k2 k3 (fun b h => (k4 b h).2) (fun b h => (k5 b h).2) hEd (fun b hb' => ⟨Nat.lt_of_lt_of_le (hK b hb') k6.size, fun h => by have := (k4 b h).1; have := hK b hb'; omega, fun h => by have := (k5 b h).1; have := hK b hb'; omega⟩) (by omega) (fun e he => Nat.le_trans (hD0.out e he) (by omega)) (fun e he => Nat.le_trans (hs2 e he) (by omega))
            go_wp2_with fail
            refine hcon.mono ?_
            rintro _ w2 ⟨rfl, es, hT, hel', hmem⟩
            have hI2 := Inv.step (es := es0) k4 k5 k6 hT
            have hD : Hid (∀ e ∈ es, e.data.length ≤ 2407) := fun e he => (hmem e he).elim (hD0.out e) (hs2 e)
            have hel : es.length ≤ 300 + 300 * (j + 1) := by omega
            clear b0 b1 b2 b3 b4 hcon hT hmem k1 k2 k3 k4 k5 k6 hEd hI0 hD0 hel' hs2
            go_wp2_with fail
            refine (Last_any 0 w2 p es (by obtain ⟨S, R, k1, _⟩ := hI2; exact k1.has)).mono ?_
            rintro _ w3 ⟨rfl, hb3⟩
            have hI3 := hI2.below hb3
            clear hI2 hb3
            obtain ⟨S3, R3, m1, m2, m3⟩ := id hI3
            go_wp2_with fail
            refine (refLast_S R3 w3 q es m2 (by omega)).mono ?_
            rintro _ wk ⟨rfl, hb4⟩
            have hI := hI3.below hb4
            have hdat := hD.out
            clear hI3 m1 m2 m3 hb4
            obtain ⟨S, R, k1, k2, k3, k4, k5, k6⟩ := hI
            obtain ⟨Aq, cq, Kq, q0, hEq, hql, hKq⟩ := k2.c0
            have hfrom : ∀ w', Below wk.heap.size wk w' → Calls Tryz.prog 16 #[.pointer (some ⟨p, 0, none⟩), .int .i64 1, .int .i64 4611686018427387904] w' (FromPK w' es) := fun w' h => by
              have h9 := FromKS 0 w' p es 1 4611686018427387904 ((k1.below h).has) (by omega) (fun e he => Nat.le_trans (hdat e he) (by omega))
              rw [from_all _ _ (by omega)] at h9
              exact h9
            have keepS : ∀ w', Below wk.heap.size wk w' → (w'.cell? ⟨q, 0, none⟩ = some (.slice Aq es.length cq) ∧ Below wk.heap.size wk w') := fun w' hb' => ⟨(hb'.cell (World.block_lt_of_cell? wk _ q0)).trans q0, hb'⟩
            have qa : ((es.length : Int) != (es.length : Int)) = false := by simp
            have qb : (termAt es (es.length : Int) != termAt es (es.length : Int)) = false := by simp
            go_wp2_with fail
            refine wp_region_held_drew (S := fun w' => (w'.cell? ⟨q, 0, none⟩ = some (.slice Aq es.length cq) ∧ Below wk.heap.size wk w')) (by kernel_rfl) (keepS _ (Below.refl _ _).drew) (fun hS9 => ?_)
            refine wpAnyH_take (i := 0) (v := ?_) rfl (by kernel_rfl) (by kernel_rfl) (by kernel_rfl) (fun _ _ _ h => h) (Or.inl ⟨by rfl, ?_⟩) hS9 ?_
            rotate_left 1
            · intro w' hSw
              go_simp <;> with_reducible rfl
            try simp only [List.getElem_toArray, List.getElem_cons_zero, List.getElem_cons_succ, Act.put, List.setIfInBounds_toArray, List.set_cons_zero, List.set_cons_succ]
            refine wpAnyH_take (i := 1) (v := ?_) rfl (by kernel_rfl) (by kernel_rfl) (by kernel_rfl) (fun _ _ _ h => h) (Or.inl ⟨by rfl, ?_⟩) hS9 ?_
            rotate_left 1
            · intro w' hSw
              go_simp <;> with_reducible rfl
            try simp only [List.getElem_toArray, List.getElem_cons_zero, List.getElem_cons_succ, Act.put, List.setIfInBounds_toArray, List.set_cons_zero, List.set_cons_succ]
            refine wpAnyH_take (i := 2) (v := ?_) rfl (by kernel_rfl) (by kernel_rfl) (by kernel_rfl) (fun _ _ _ h => h) (Or.inl ⟨by rfl, ?_⟩) hS9 ?_
            rotate_left 1
            · intro w' hSw
              go_simp <;> with_reducible rfl
            try simp only [List.getElem_toArray, List.getElem_cons_zero, List.getElem_cons_succ, Act.put, List.setIfInBounds_toArray, List.set_cons_zero, List.set_cons_succ]
            refine wpAnyH_take (i := 3) (v := ?_) rfl (by kernel_rfl) (by kernel_rfl) (by kernel_rfl) (fun _ _ _ h => h) (Or.inl ⟨by rfl, ?_⟩) hS9 ?_
            rotate_left 1
            · intro w' hSw
              go_simp <;> with_reducible rfl
            try simp only [List.getElem_toArray, List.getElem_cons_zero, List.getElem_cons_succ, Act.put, List.setIfInBounds_toArray, List.set_cons_zero, List.set_cons_succ]
            refine wpAnyH_take (i := 4) (v := ?_) rfl (by kernel_rfl) (by kernel_rfl) (by kernel_rfl) (fun _ _ _ h => h) (Or.inl ⟨by go_simp, ?_⟩) hS9 ?_
            rotate_left 1
            · intro w' hSw
              go_simp <;> with_reducible rfl
            try simp only [List.getElem_toArray, List.getElem_cons_zero, List.getElem_cons_succ, Act.put, List.setIfInBounds_toArray, List.set_cons_zero, List.set_cons_succ]
            refine wpAnyH_take (i := 5) (v := ?_) rfl (by kernel_rfl) (by kernel_rfl) (by kernel_rfl) (fun _ _ _ h => h) (Or.inl ⟨by go_simp, ?_⟩) hS9 ?_
            rotate_left 1
            · intro w' hSw
              go_simp <;> with_reducible rfl
            try simp only [List.getElem_toArray, List.getElem_cons_zero, List.getElem_cons_succ, Act.put, List.setIfInBounds_toArray, List.set_cons_zero, List.set_cons_succ]
            refine wpAnyH_take (i := 6) (v := ?_) rfl (by kernel_rfl) (by kernel_rfl) (by kernel_rfl) (fun _ _ _ h => h) (Or.inl ⟨by go_simp, ?_⟩) hS9 ?_
            rotate_left 1
            · intro w' hSw
              go_simp <;> with_reducible rfl
            try simp only [List.getElem_toArray, List.getElem_cons_zero, List.getElem_cons_succ, Act.put, List.setIfInBounds_toArray, List.set_cons_zero, List.set_cons_succ]
            refine wpAnyH_take (i := 7) (v := ?_) rfl (by kernel_rfl) (by kernel_rfl) (by kernel_rfl) (fun _ _ _ h => h) (Or.inl ⟨by rfl, ?_⟩) hS9 ?_
            rotate_left 1
            · intro w' hSw
              go_simp <;> with_reducible rfl
            try simp only [List.getElem_toArray, List.getElem_cons_zero, List.getElem_cons_succ, Act.put, List.setIfInBounds_toArray, List.set_cons_zero, List.set_cons_succ]
            refine wpAnyH_take (i := 8) (v := ?_) rfl (by kernel_rfl) (by kernel_rfl) (by kernel_rfl) (fun _ _ _ h => h) (Or.inl ⟨by rfl, ?_⟩) hS9 ?_
            rotate_left 1
            · intro w' hSw
              go_simp <;> with_reducible rfl
            try simp only [List.getElem_toArray, List.getElem_cons_zero, List.getElem_cons_succ, Act.put, List.setIfInBounds_toArray, List.set_cons_zero, List.set_cons_succ]
            refine wpAnyH_take (i := 9) (v := ?_) rfl (by kernel_rfl) (by kernel_rfl) (by kernel_rfl) (fun _ _ _ h => h) (Or.inl ⟨by go_simp, ?_⟩) hS9 ?_
            rotate_left 1
            · intro w' hSw
              go_simp <;> with_reducible rfl
            try simp only [List.getElem_toArray, List.getElem_cons_zero, List.getElem_cons_succ, Act.put, List.setIfInBounds_toArray, List.set_cons_zero, List.set_cons_succ]
            refine wpAnyH_take (i := 11) (v := ?_) rfl (by kernel_rfl) (by kernel_rfl) (by kernel_rfl) (fun _ _ _ h => h) (Or.inl ⟨by go_simp, ?_⟩) hS9 ?_
            rotate_left 1
            · intro w' hSw
              go_simp <;> with_reducible rfl
            try simp only [List.getElem_toArray, List.getElem_cons_zero, List.getElem_cons_succ, Act.put, List.setIfInBounds_toArray, List.set_cons_zero, List.set_cons_succ]
            refine wpAnyH_take (i := 12) (v := ?_) rfl (by kernel_rfl) (by kernel_rfl) (by kernel_rfl) (fun _ _ _ h => h) (Or.inl ⟨by go_simp, ?_⟩) hS9 ?_
            rotate_left 1
            · intro w' hSw
              go_simp <;> with_reducible rfl
            try simp only [List.getElem_toArray, List.getElem_cons_zero, List.getElem_cons_succ, Act.put, List.setIfInBounds_toArray, List.set_cons_zero, List.set_cons_succ]
            refine wpAnyH_take (i := 13) (v := ?_) rfl (by kernel_rfl) (by kernel_rfl) (by kernel_rfl) (fun _ _ _ h => h) (Or.inl ⟨by go_simp, ?_⟩) hS9 ?_
            rotate_left 1
            · intro w' hSw
              go_simp <;> with_reducible rfl
            try simp only [List.getElem_toArray, List.getElem_cons_zero, List.getElem_cons_succ, Act.put, List.setIfInBounds_toArray, List.set_cons_zero, List.set_cons_succ]
            refine wpAnyH_take (i := 14) (v := ?_) rfl (by kernel_rfl) (by kernel_rfl) (by kernel_rfl) (fun _ _ _ h => h) (Or.inl ⟨by go_simp, ?_⟩) hS9 ?_
            rotate_left 1
            · intro w' hSw
              go_simp <;> with_reducible rfl
            try simp only [List.getElem_toArray, List.getElem_cons_zero, List.getElem_cons_succ, Act.put, List.setIfInBounds_toArray, List.set_cons_zero, List.set_cons_succ]
            refine wpAnyH_ready (rs := [10]) (by kernel_rfl) (by simp) (AllReadyH.cons rfl (fun K9 hK9 => ?_) AllReadyH.nil)
            go_simp
            refine (hfrom _ hS9.2).mono ?_
            rintro _ w5 ⟨v1, g1, ds1, rfl, hl1, hbb1⟩
            have hB9 : Below wk.heap.size wk w5 := hS9.2.trans (hbb1.mono hS9.2.size)
            obtain ⟨A1, c1, rfl, hE1⟩ := hl1.ents
            go_simp
            refine hK9.out _ _ (keepS _ hB9) (fun hS9 => ?_)
            clear hK9 K9
            try simp only [List.getElem_toArray, List.getElem_cons_zero, List.getElem_cons_succ, Act.put, List.setIfInBounds_toArray, List.set_cons_zero, List.set_cons_succ]
            refine wpAnyH_ready (rs := [15]) (by kernel_rfl) (by simp) (AllReadyH.cons rfl (fun K9 hK9 => ?_) AllReadyH.nil)
            go_simp
            have hsm := SameEntries_any _ _ A1 Aq c1 cq es es w5 hE1 (hEq.keep (K' := fun b => b < w5.heap.size) (fun b hb' => hB9.block b (hKq b hb').1) (fun b hb' => Nat.lt_of_lt_of_le (hKq b hb').1 hB9.size)) (fun _ h => h.2) (fun _ h => h)
            rw [decide_eq_true (rfl : es = es)] at hsm
            refine hsm.mono ?_
            rintro _ w6 ⟨rfl, hbb2⟩
            have hB10 := hB9
            clear hB9
            have hB9 : Below wk.heap.size wk w6 := hB10.trans (hbb2.mono hB10.size)
            go_simp
            refine hK9.out _ _ (keepS _ hB9) (fun hS9 => ?_)
            clear hK9 K9
            try simp only [List.getElem_toArray, List.getElem_cons_zero, List.getElem_cons_succ, Act.put, List.setIfInBounds_toArray, List.set_cons_zero, List.set_cons_succ]
            refine wpAnyH_take (i := 16) (v := ?_) rfl (by kernel_rfl) (by kernel_rfl) (by kernel_rfl) (fun _ _ _ h => h) (Or.inl ⟨by go_simp, ?_⟩) hS9 ?_
            rotate_left 1
            · intro w' hSw
              go_simp <;> with_reducible rfl
            try simp only [List.getElem_toArray, List.getElem_cons_zero, List.getElem_cons_succ, Act.put, List.setIfInBounds_toArray, List.set_cons_zero, List.set_cons_succ]
            refine wpAnyH_take (i := 17) (v := ?_) rfl (by kernel_rfl) (by kernel_rfl) (by kernel_rfl) (fun _ _ _ h => h) (Or.inl ⟨by rfl, ?_⟩) hS9 ?_
            rotate_left 1
            · intro w' hSw
              go_simp <;> with_reducible rfl
            try simp only [List.getElem_toArray, List.getElem_cons_zero, List.getElem_cons_succ, Act.put, List.setIfInBounds_toArray, List.set_cons_zero, List.set_cons_succ]
            refine wpAnyH_done (by kernel_rfl) ?_ _
            have hI6 : Inv w p q es w6 := ⟨S, R, k1.below hB9, k2.below hB9, k3, fun b hb' => ⟨(k4 b hb').1, Nat.lt_of_lt_of_le (k4 b hb').2 hB9.size⟩, fun b hb' => ⟨(k5 b hb').1, Nat.lt_of_lt_of_le (k5 b hb').2 hB9.size⟩, k6.trans (hB9.mono k6.size)⟩
            clear k1 k2 k3 k4 k5 k6 hEq hE1 hl1 hbb1 hbb2 hsm hB9 hB10 keepS hfrom q0 hS9
            go_wp2_with fail
            go_roundw
            case rel => exact ⟨j + 1, es, by omega, by go_num, by omega, hI6, Lib.hid hdat⟩
            case measure => simp [intOf]; omega
        · have d1 : decide ((j : Int) < (xs.length : Int)) = true := decide_eq_true (by omega)
          have d2 : decide ((j : Int) < 60) = false := decide_eq_false (by omega)
          obtain ⟨wk, rfl⟩ : ∃ wk : World, wk = wr := ⟨_, rfl⟩
          obtain ⟨es, rfl⟩ : ∃ es : List En, es = es0 := ⟨_, rfl⟩
          have hI := hI0
          have hdat := hD0.out
          obtain ⟨S, R, k1, k2, k3, k4, k5, k6⟩ := hI
          obtain ⟨Aq, cq, Kq, q0, hEq, hql, hKq⟩ := k2.c0
          have hfrom : ∀ w', Below wk.heap.size wk w' → Calls Tryz.prog 16 #[.pointer (some ⟨p, 0, none⟩), .int .i64 1, .int .i64 es.length] w' (FromPK w' es) := fun w' h => by
            have h9 := FromKS 0 w' p es 1 es.length ((k1.below h).has) (by omega) (fun e he => Nat.le_trans (hdat e he) (by omega))
            rw [from_all _ _ (by omega)] at h9
            exact h9
          have keepS : ∀ w', Below wk.heap.size wk w' → (w'.cell? ⟨q, 0, none⟩ = some (.slice Aq es.length cq) ∧ Below wk.heap.size wk w') := fun w' hb' => ⟨(hb'.cell (World.block_lt_of_cell? wk _ q0)).trans q0, hb'⟩
          go_wp2_with fail
          refine wp_region_held_drew (S := fun w' => (w'.cell? ⟨q, 0, none⟩ = some (.slice Aq es.length cq) ∧ Below wk.heap.size wk w')) (by kernel_rfl) (keepS _ (Below.refl _ _).drew) (fun hS9 => ?_)
          refine wpAnyH_take (i := 0) (v := ?_) rfl (by kernel_rfl) (by kernel_rfl) (by kernel_rfl) (fun _ _ _ h => h) (Or.inl ⟨by rfl, ?_⟩) hS9 ?_
          rotate_left 1
          · intro w' hSw
            go_simp <;> with_reducible rfl
          try simp only [List.getElem_toArray, List.getElem_cons_zero, List.getElem_cons_succ, Act.put, List.setIfInBounds_toArray, List.set_cons_zero, List.set_cons_succ]
          refine wpAnyH_take (i := 1) (v := ?_) rfl (by kernel_rfl) (by kernel_rfl) (by kernel_rfl) (fun _ _ _ h => h) (Or.inl ⟨by rfl, ?_⟩) hS9 ?_
          rotate_left 1
          · intro w' hSw
            go_simp <;> with_reducible rfl
          try simp only [List.getElem_toArray, List.getElem_cons_zero, List.getElem_cons_succ, Act.put, List.setIfInBounds_toArray, List.set_cons_zero, List.set_cons_succ]
          refine wpAnyH_take (i := 2) (v := ?_) rfl (by kernel_rfl) (by kernel_rfl) (by kernel_rfl) (fun _ _ _ h => h) (Or.inl ⟨by rfl, ?_⟩) hS9 ?_
          rotate_left 1
          · intro w' hSw
            go_simp <;> with_reducible rfl
          try simp only [List.getElem_toArray, List.getElem_cons_zero, List.getElem_cons_succ, Act.put, List.setIfInBounds_toArray, List.set_cons_zero, List.set_cons_succ]
          refine wpAnyH_take (i := 3) (v := ?_) rfl (by kernel_rfl) (by kernel_rfl) (by kernel_rfl) (fun _ _ _ h => h) (Or.inl ⟨by rfl, ?_⟩) hS9 ?_
          rotate_left 1
          · intro w' hSw
            go_simp <;> with_reducible rfl
          try simp only [List.getElem_toArray, List.getElem_cons_zero, List.getElem_cons_succ, Act.put, List.setIfInBounds_toArray, List.set_cons_zero, List.set_cons_succ]
          refine wpAnyH_take (i := 4) (v := ?_) rfl (by kernel_rfl) (by kernel_rfl) (by kernel_rfl) (fun _ _ _ h => h) (Or.inl ⟨by rfl, ?_⟩) hS9 ?_
          rotate_left 1
          · intro w' hSw
            go_simp <;> with_reducible rfl
          try simp only [List.getElem_toArray, List.getElem_cons_zero, List.getElem_cons_succ, Act.put, List.setIfInBounds_toArray, List.set_cons_zero, List.set_cons_succ]
          refine wpAnyH_take (i := 5) (v := ?_) rfl (by kernel_rfl) (by kernel_rfl) (by kernel_rfl) (fun _ _ _ h => h) (Or.inl ⟨by rfl, ?_⟩) hS9 ?_
          rotate_left 1
          · intro w' hSw
            go_simp <;> with_reducible rfl
          try simp only [List.getElem_toArray, List.getElem_cons_zero, List.getElem_cons_succ, Act.put, List.setIfInBounds_toArray, List.set_cons_zero, List.set_cons_succ]
          refine wpAnyH_take (i := 7) (v := ?_) rfl (by kernel_rfl) (by kernel_rfl) (by kernel_rfl) (fun _ _ _ h => h) (Or.inl ⟨by rfl, ?_⟩) hS9 ?_
          rotate_left 1
          · intro w' hSw
            go_simp <;> with_reducible rfl
          try simp only [List.getElem_toArray, List.getElem_cons_zero, List.getElem_cons_succ, Act.put, List.setIfInBounds_toArray, List.set_cons_zero, List.set_cons_succ]
          refine wpAnyH_take (i := 8) (v := ?_) rfl (by kernel_rfl) (by kernel_rfl) (by kernel_rfl) (fun _ _ _ h => h) (Or.inl ⟨by rfl, ?_⟩) hS9 ?_
          rotate_left 1
          · intro w' hSw
            go_simp <;> with_reducible rfl
          try simp only [List.getElem_toArray, List.getElem_cons_zero, List.getElem_cons_succ, Act.put, List.setIfInBounds_toArray, List.set_cons_zero, List.set_cons_succ]
          refine wpAnyH_take (i := 9) (v := ?_) rfl (by kernel_rfl) (by kernel_rfl) (by kernel_rfl) (fun _ _ _ h => h) (Or.inl ⟨by rfl, ?_⟩) hS9 ?_
          rotate_left 1
          · intro w' hSw
            go_simp <;> with_reducible rfl
          try simp only [List.getElem_toArray, List.getElem_cons_zero, List.getElem_cons_succ, Act.put, List.setIfInBounds_toArray, List.set_cons_zero, List.set_cons_succ]
          refine wpAnyH_take (i := 10) (v := ?_) rfl (by kernel_rfl) (by kernel_rfl) (by kernel_rfl) (fun _ _ _ h => h) (Or.inl ⟨by rfl, ?_⟩) hS9 ?_
          rotate_left 1
          · intro w' hSw
            go_simp <;> with_reducible rfl
          try simp only [List.getElem_toArray, List.getElem_cons_zero, List.getElem_cons_succ, Act.put, List.setIfInBounds_toArray, List.set_cons_zero, List.set_cons_succ]
          refine wpAnyH_ready (rs := [6]) (by kernel_rfl) (by simp) (AllReadyH.cons rfl (fun K9 hK9 => ?_) AllReadyH.nil)
          go_simp
          refine (hfrom _ hS9.2).mono ?_
          rintro _ w5 ⟨v1, g1, ds1, rfl, hl1, hbb1⟩
          have hB9 : Below wk.heap.size wk w5 := hS9.2.trans (hbb1.mono hS9.2.size)
          obtain ⟨A1, c1, rfl, hE1⟩ := hl1.ents
          go_simp
          refine hK9.out _ _ (keepS _ hB9) (fun hS9 => ?_)
          clear hK9 K9
          try simp only [List.getElem_toArray, List.getElem_cons_zero, List.getElem_cons_succ, Act.put, List.setIfInBounds_toArray, List.set_cons_zero, List.set_cons_succ]
          refine wpAnyH_ready (rs := [11]) (by kernel_rfl) (by simp) (AllReadyH.cons rfl (fun K9 hK9 => ?_) AllReadyH.nil)
          go_simp
          have hsm := SameEntries_any _ _ A1 Aq c1 cq es es w5 hE1 (hEq.keep (K' := fun b => b < w5.heap.size) (fun b hb' => hB9.block b (hKq b hb').1) (fun b hb' => Nat.lt_of_lt_of_le (hKq b hb').1 hB9.size)) (fun _ h => h.2) (fun _ h => h)
          rw [decide_eq_true (rfl : es = es)] at hsm
          refine hsm.mono ?_
          rintro _ w6 ⟨rfl, hbb2⟩
          have hB10 := hB9
          clear hB9
          have hB9 : Below wk.heap.size wk w6 := hB10.trans (hbb2.mono hB10.size)
          go_simp
          refine hK9.out _ _ (keepS _ hB9) (fun hS9 => ?_)
          clear hK9 K9
          try simp only [List.getElem_toArray, List.getElem_cons_zero, List.getElem_cons_succ, Act.put, List.setIfInBounds_toArray, List.set_cons_zero, List.set_cons_succ]
          refine wpAnyH_take (i := 12) (v := ?_) rfl (by kernel_rfl) (by kernel_rfl) (by kernel_rfl) (fun _ _ _ h => h) (Or.inl ⟨by rfl, ?_⟩) hS9 ?_
          rotate_left 1
          · intro w' hSw
            go_simp <;> with_reducible rfl
          try simp only [List.getElem_toArray, List.getElem_cons_zero, List.getElem_cons_succ, Act.put, List.setIfInBounds_toArray, List.set_cons_zero, List.set_cons_succ]
          refine wpAnyH_ready (rs := [13]) (by kernel_rfl) (by simp) (AllReadyH.cons rfl (fun K9 hK9 => ?_) AllReadyH.nil)
          go_simp
          refine (awake_any _).mono ?_
          rintro _ w7 ⟨rfl, hbb3⟩
          have hB11 := hB9
          clear hB9
          have hB9 : Below wk.heap.size wk w7 := hB11.trans (hbb3.mono hB11.size)
          go_simp
          refine hK9.out _ _ (keepS _ hB9) (fun hS9 => ?_)
          clear hK9 K9
          try simp only [List.getElem_toArray, List.getElem_cons_zero, List.getElem_cons_succ, Act.put, List.setIfInBounds_toArray, List.set_cons_zero, List.set_cons_succ]
          refine wpAnyH_take (i := 14) (v := ?_) rfl (by kernel_rfl) (by kernel_rfl) (by kernel_rfl) (fun _ _ _ h => h) (Or.inl ⟨by rfl, ?_⟩) hS9 ?_
          rotate_left 1
          · intro w' hSw
            go_simp <;> with_reducible rfl
          try simp only [List.getElem_toArray, List.getElem_cons_zero, List.getElem_cons_succ, Act.put, List.setIfInBounds_toArray, List.set_cons_zero, List.set_cons_succ]
          refine wpAnyH_take (i := 15) (v := ?_) rfl (by kernel_rfl) (by kernel_rfl) (by kernel_rfl) (fun _ _ _ h => h) (Or.inl ⟨by rfl, ?_⟩) hS9 ?_
          rotate_left 1
          · intro w' hSw
            go_simp <;> with_reducible rfl
          try simp only [List.getElem_toArray, List.getElem_cons_zero, List.getElem_cons_succ, Act.put, List.setIfInBounds_toArray, List.set_cons_zero, List.set_cons_succ]
          refine wpAnyH_done (by kernel_rfl) ?_ _
          go_wp2_with fail
          go_ret
          exact ⟨rfl, k6.trans (hB9.mono k6.size)⟩
      · have d1 : decide ((j : Int) < (xs.length : Int)) = false := decide_eq_false (by omega)
        obtain ⟨wk, rfl⟩ : ∃ wk : World, wk = wr := ⟨_, rfl⟩
        obtain ⟨es, rfl⟩ : ∃ es : List En, es = es0 := ⟨_, rfl⟩
        have hI := hI0
        have hdat := hD0.out
        obtain ⟨S, R, k1, k2, k3, k4, k5, k6⟩ := hI
        obtain ⟨Aq, cq, Kq, q0, hEq, hql, hKq⟩ := k2.c0
        have hfrom : ∀ w', Below wk.heap.size wk w' → Calls Tryz.prog 16 #[.pointer (some ⟨p, 0, none⟩), .int .i64 1, .int .i64 es.length] w' (FromPK w' es) := fun w' h => by
          have h9 := FromKS 0 w' p es 1 es.length ((k1.below h).has) (by omega) (fun e he => Nat.le_trans (hdat e he) (by omega))
          rw [from_all _ _ (by omega)] at h9
          exact h9
        have keepS : ∀ w', Below wk.heap.size wk w' → (w'.cell? ⟨q, 0, none⟩ = some (.slice Aq es.length cq) ∧ Below wk.heap.size wk w') := fun w' hb' => ⟨(hb'.cell (World.block_lt_of_cell? wk _ q0)).trans q0, hb'⟩
        go_wp2_with fail
        refine wp_region_held_drew (S := fun w' => (w'.cell? ⟨q, 0, none⟩ = some (.slice Aq es.length cq) ∧ Below wk.heap.size wk w')) (by kernel_rfl) (keepS _ (Below.refl _ _).drew) (fun hS9 => ?_)
        refine wpAnyH_take (i := 0) (v := ?_) rfl (by kernel_rfl) (by kernel_rfl) (by kernel_rfl) (fun _ _ _ h => h) (Or.inl ⟨by rfl, ?_⟩) hS9 ?_
        rotate_left 1
        · intro w' hSw
          go_simp <;> with_reducible rfl
        try simp only [List.getElem_toArray, List.getElem_cons_zero, List.getElem_cons_succ, Act.put, List.setIfInBounds_toArray, List.set_cons_zero, List.set_cons_succ]
        refine wpAnyH_take (i := 1) (v := ?_) rfl (by kernel_rfl) (by kernel_rfl) (by kernel_rfl) (fun _ _ _ h => h) (Or.inl ⟨by rfl, ?_⟩) hS9 ?_
        rotate_left 1
        · intro w' hSw
          go_simp <;> with_reducible rfl
        try simp only [List.getElem_toArray, List.getElem_cons_zero, List.getElem_cons_succ, Act.put, List.setIfInBounds_toArray, List.set_cons_zero, List.set_cons_succ]
        refine wpAnyH_take (i := 2) (v := ?_) rfl (by kernel_rfl) (by kernel_rfl) (by kernel_rfl) (fun _ _ _ h => h) (Or.inl ⟨by rfl, ?_⟩) hS9 ?_
        rotate_left 1
        · intro w' hSw
          go_simp <;> with_reducible rfl
        try simp only [List.getElem_toArray, List.getElem_cons_zero, List.getElem_cons_succ, Act.put, List.setIfInBounds_toArray, List.set_cons_zero, List.set_cons_succ]
        refine wpAnyH_take (i := 3) (v := ?_) rfl (by kernel_rfl) (by kernel_rfl) (by kernel_rfl) (fun _ _ _ h => h) (Or.inl ⟨by rfl, ?_⟩) hS9 ?_
        rotate_left 1
        · intro w' hSw
          go_simp <;> with_reducible rfl
        try simp only [List.getElem_toArray, List.getElem_cons_zero, List.getElem_cons_succ, Act.put, List.setIfInBounds_toArray, List.set_cons_zero, List.set_cons_succ]
        refine wpAnyH_take (i := 4) (v := ?_) rfl (by kernel_rfl) (by kernel_rfl) (by kernel_rfl) (fun _ _ _ h => h) (Or.inl ⟨by rfl, ?_⟩) hS9 ?_
        rotate_left 1
        · intro w' hSw
          go_simp <;> with_reducible rfl
        try simp only [List.getElem_toArray, List.getElem_cons_zero, List.getElem_cons_succ, Act.put, List.setIfInBounds_toArray, List.set_cons_zero, List.set_cons_succ]
        refine wpAnyH_take (i := 5) (v := ?_) rfl (by kernel_rfl) (by kernel_rfl) (by kernel_rfl) (fun _ _ _ h => h) (Or.inl ⟨by rfl, ?_⟩) hS9 ?_
        rotate_left 1
        · intro w' hSw
          go_simp <;> with_reducible rfl
        try simp only [List.getElem_toArray, List.getElem_cons_zero, List.getElem_cons_succ, Act.put, List.setIfInBounds_toArray, List.set_cons_zero, List.set_cons_succ]
        refine wpAnyH_take (i := 7) (v := ?_) rfl (by kernel_rfl) (by kernel_rfl) (by kernel_rfl) (fun _ _ _ h => h) (Or.inl ⟨by rfl, ?_⟩) hS9 ?_
        rotate_left 1
        · intro w' hSw
          go_simp <;> with_reducible rfl
        try simp only [List.getElem_toArray, List.getElem_cons_zero, List.getElem_cons_succ, Act.put, List.setIfInBounds_toArray, List.set_cons_zero, List.set_cons_succ]
        refine wpAnyH_take (i := 8) (v := ?_) rfl (by kernel_rfl) (by kernel_rfl) (by kernel_rfl) (fun _ _ _ h => h) (Or.inl ⟨by rfl, ?_⟩) hS9 ?_
        rotate_left 1
        · intro w' hSw
          go_simp <;> with_reducible rfl
        try simp only [List.getElem_toArray, List.getElem_cons_zero, List.getElem_cons_succ, Act.put, List.setIfInBounds_toArray, List.set_cons_zero, List.set_cons_succ]
        refine wpAnyH_take (i := 9) (v := ?_) rfl (by kernel_rfl) (by kernel_rfl) (by kernel_rfl) (fun _ _ _ h => h) (Or.inl ⟨by rfl, ?_⟩) hS9 ?_
        rotate_left 1
        · intro w' hSw
          go_simp <;> with_reducible rfl
        try simp only [List.getElem_toArray, List.getElem_cons_zero, List.getElem_cons_succ, Act.put, List.setIfInBounds_toArray, List.set_cons_zero, List.set_cons_succ]
        refine wpAnyH_take (i := 10) (v := ?_) rfl (by kernel_rfl) (by kernel_rfl) (by kernel_rfl) (fun _ _ _ h => h) (Or.inl ⟨by rfl, ?_⟩) hS9 ?_
        rotate_left 1
        · intro w' hSw
          go_simp <;> with_reducible rfl
        try simp only [List.getElem_toArray, List.getElem_cons_zero, List.getElem_cons_succ, Act.put, List.setIfInBounds_toArray, List.set_cons_zero, List.set_cons_succ]
        refine wpAnyH_ready (rs := [6]) (by kernel_rfl) (by simp) (AllReadyH.cons rfl (fun K9 hK9 => ?_) AllReadyH.nil)
        go_simp
        refine (hfrom _ hS9.2).mono ?_
        rintro _ w5 ⟨v1, g1, ds1, rfl, hl1, hbb1⟩
        have hB9 : Below wk.heap.size wk w5 := hS9.2.trans (hbb1.mono hS9.2.size)
        obtain ⟨A1, c1, rfl, hE1⟩ := hl1.ents
        go_simp
        refine hK9.out _ _ (keepS _ hB9) (fun hS9 => ?_)
        clear hK9 K9
        try simp only [List.getElem_toArray, List.getElem_cons_zero, List.getElem_cons_succ, Act.put, List.setIfInBounds_toArray, List.set_cons_zero, List.set_cons_succ]
        refine wpAnyH_ready (rs := [11]) (by kernel_rfl) (by simp) (AllReadyH.cons rfl (fun K9 hK9 => ?_) AllReadyH.nil)
        go_simp
        have hsm := SameEntries_any _ _ A1 Aq c1 cq es es w5 hE1 (hEq.keep (K' := fun b => b < w5.heap.size) (fun b hb' => hB9.block b (hKq b hb').1) (fun b hb' => Nat.lt_of_lt_of_le (hKq b hb').1 hB9.size)) (fun _ h => h.2) (fun _ h => h)
        rw [decide_eq_true (rfl : es = es)] at hsm
        refine hsm.mono ?_
        rintro _ w6 ⟨rfl, hbb2⟩
        have hB10 := hB9
        clear hB9
        have hB9 : Below wk.heap.size wk w6 := hB10.trans (hbb2.mono hB10.size)
        go_simp
        refine hK9.out _ _ (keepS _ hB9) (fun hS9 => ?_)
        clear hK9 K9
        try simp only [List.getElem_toArray, List.getElem_cons_zero, List.getElem_cons_succ, Act.put, List.setIfInBounds_toArray, List.set_cons_zero, List.set_cons_succ]
        refine wpAnyH_take (i := 12) (v := ?_) rfl (by kernel_rfl) (by kernel_rfl) (by kernel_rfl) (fun _ _ _ h => h) (Or.inl ⟨by rfl, ?_⟩) hS9 ?_
        rotate_left 1
        · intro w' hSw
          go_simp <;> with_reducible rfl
        try simp only [List.getElem_toArray, List.getElem_cons_zero, List.getElem_cons_succ, Act.put, List.setIfInBounds_toArray, List.set_cons_zero, List.set_cons_succ]
        refine wpAnyH_ready (rs := [13]) (by kernel_rfl) (by simp) (AllReadyH.cons rfl (fun K9 hK9 => ?_) AllReadyH.nil)
        go_simp
        refine (awake_any _).mono ?_
        rintro _ w7 ⟨rfl, hbb3⟩
        have hB11 := hB9
        clear hB9
        have hB9 : Below wk.heap.size wk w7 := hB11.trans (hbb3.mono hB11.size)
        go_simp
        refine hK9.out _ _ (keepS _ hB9) (fun hS9 => ?_)
        clear hK9 K9
        try simp only [List.getElem_toArray, List.getElem_cons_zero, List.getElem_cons_succ, Act.put, List.setIfInBounds_toArray, List.set_cons_zero, List.set_cons_succ]
        refine wpAnyH_take (i := 14) (v := ?_) rfl (by kernel_rfl) (by kernel_rfl) (by kernel_rfl) (fun _ _ _ h => h) (Or.inl ⟨by rfl, ?_⟩) hS9 ?_
        rotate_left 1
        · intro w' hSw
          go_simp <;> with_reducible rfl
        try simp only [List.getElem_toArray, List.getElem_cons_zero, List.getElem_cons_succ, Act.put, List.setIfInBounds_toArray, List.set_cons_zero, List.set_cons_succ]
        refine wpAnyH_take (i := 15) (v := ?_) rfl (by kernel_rfl) (by kernel_rfl) (by kernel_rfl) (fun _ _ _ h => h) (Or.inl ⟨by rfl, ?_⟩) hS9 ?_
        rotate_left 1
        · intro w' hSw
          go_simp <;> with_reducible rfl
        try simp only [List.getElem_toArray, List.getElem_cons_zero, List.getElem_cons_succ, Act.put, List.setIfInBounds_toArray, List.set_cons_zero, List.set_cons_succ]
        refine wpAnyH_done (by kernel_rfl) ?_ _
        go_wp2_with fail
        go_ret
        exact ⟨rfl, k6.trans (hB9.mono k6.size)⟩
end Go.Proofs.YtcbomcbflmgmhaaGreat
