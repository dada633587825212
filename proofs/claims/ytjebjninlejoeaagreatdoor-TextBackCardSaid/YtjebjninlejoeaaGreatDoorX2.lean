/- text, the walk: registers, numbers. -/
import Derived.Test.YtjebjninlejoeaaGreatDoorX1
namespace Go.Proofs.YtjebjninlejoeaaGreatDoor
open Go.RowKit Go.Maps Go.ChangeMaps
set_option linter.unusedVariables false
set_option linter.unusedSimpArgs false
set_option maxRecDepth 100000

theorem regN_at : ∀ k : Nat, k < 11 → regNs[k]? = some (114 :: Lib.decDigits k) := by
  intro k hk
  have : k = 0 ∨ k = 1 ∨ k = 2 ∨ k = 3 ∨ k = 4 ∨ k = 5 ∨ k = 6 ∨ k = 7 ∨ k = 8 ∨ k = 9 ∨ k = 10 := by omega
  rcases this with rfl | rfl | rfl | rfl | rfl | rfl | rfl | rfl | rfl | rfl | rfl
  all_goals (first | rw [Lib.decDigits_one (by decide)] | rw [Lib.decDigits_two (by decide) (by decide)])
  all_goals rfl
theorem idx_first : ∀ (l : List Nm) (s : Nm) (k : Nat), (∀ j, j < k → l[j]? ≠ some s) → l[k]? = some s → l.idxOf? s = some k
  | [], s, k, _, h => by simp at h
  | x :: l, s, 0, _, h => by
    simp at h
    subst h
    simp [List.idxOf?_cons]
  | x :: l, s, k + 1, h1, h => by
    have hx : x ≠ s := fun e => h1 0 (by omega) (by rw [e]; rfl)
    have ih := idx_first l s k (fun j hj => by have := h1 (j + 1) (by omega); simpa using this) (by simpa using h)
    rw [List.idxOf?_cons, if_neg (by simpa using hx), ih]
    rfl
theorem regP_at {s : Nm} {k : Nat} (h1 : ∀ j, j < k → regNs[j]? ≠ some s) (h2 : regNs[k]? = some s) : regP s = some (k : Int) := by
  unfold regP
  rw [idx_first _ _ _ h1 h2]
  rfl
theorem regP_no {s : Nm} (h1 : ∀ j, j < 11 → regNs[j]? ≠ some s) : regP s = none := by
  unfold regP
  rw [Option.map_eq_none_iff, List.idxOf?_eq_none_iff]
  intro hm
  obtain ⟨j, hj, e⟩ := List.mem_iff_getElem.1 hm
  have hl : regNs.length = 11 := rfl
  exact h1 j (by omega) (by rw [List.getElem?_eq_getElem hj, e])
theorem cat_list (a b : List UInt8) : ((⟨a.toArray⟩ : ByteArray) ++ ⟨b.toArray⟩).toList = a ++ b := by
  rw [ByteArray.toList_eq]
  simp
theorem cat_is (a b : List UInt8) : ((⟨a.toArray⟩ : ByteArray) ++ ⟨b.toArray⟩) = ⟨(a ++ b).toArray⟩ := by
  apply Go.WideShapes.bytes_inj
  simp
/-- A register's number; below 0: it is none. -/
def regI (s : Nm) : Int := (regP s).getD (-1)
theorem register_any (s : Nm) (w : World) : Calls Tryz.prog 187 #[.string ⟨s.toArray⟩] w fun e w' => e = .returned (.int .i64 (regI s)) ∧ w' = w := by
  go_enter Tryz.func187, Tryz.ntmps187
  go_wp2_with fail
  go_loopw [4] (fun i wr => ∃ k : Nat, k ≤ 11 ∧ i = .int .i64 k ∧ wr = w ∧ ∀ j, j < k → regNs[j]? ≠ some s) (fun i _ => 11 - (intOf i).toNat)
  case atStart => exact ⟨0, by omega, rfl, rfl, fun j hj => by omega⟩
  case round =>
    obtain ⟨k, hk, rfl, rfl, hno⟩ := hrel
    by_cases hlt : k < 11
    · have d1 : decide ((k : Int) < 11) = true := decide_eq_true (by omega)
      have hcon := Tryz.strconv_Itoa_small k (by omega) wr
      have hdl : (Lib.decDigits k).length ≤ 2 := by
        rw [Lib.decDigits_length]
        by_cases h : k < 10
        · rw [Lib.nDigits_small h]; omega
        · rw [Lib.nDigits_big h, Lib.nDigits_small (by omega)]; omega
      have q1 : ¬ 9223372036854775807 < 1 + (Lib.decDigits k).length := by omega
      have hc : ((⟨#[114]⟩ : ByteArray) ++ ⟨(Lib.decDigits k).toArray⟩).toList = 114 :: Lib.decDigits k := cat_list [114] _
      have hk2 := regN_at k hlt
      by_cases heq : s = 114 :: Lib.decDigits k
      · have hq : (s == 114 :: Lib.decDigits k) = true := by rw [heq]; simp
        have hR : regI s = k := by unfold regI; rw [regP_at hno (by rw [heq]; exact hk2)]; rfl
        clear hno heq hk2
        go_wp2_with fail
        refine hcon.mono ?_
        rintro _ w1 ⟨rfl, rfl⟩
        go_wp2_with fail
        go_ret
        exact ⟨by rw [hR]; rfl, rfl⟩
      · have hq : (s == 114 :: Lib.decDigits k) = false := by simpa using heq
        go_wp2_with fail
        refine hcon.mono ?_
        rintro _ w1 ⟨rfl, rfl⟩
        go_wp2_with fail
        go_roundw
        case rel =>
          refine ⟨k + 1, by omega, by go_num, by first | rfl | trivial, fun j hj => ?_⟩
          by_cases e : j = k
          · subst e; rw [hk2]; intro q; injection q with q; exact heq q.symm
          · exact hno j (by omega)
        case measure => simp [intOf]; omega
    · have d1 : decide ((k : Int) < 11) = false := decide_eq_false (by omega)
      have hR : regI s = -1 := by unfold regI; rw [regP_no (fun j hj => hno j (by omega))]; rfl
      clear hno
      go_wp2_with fail
      go_ret
      exact ⟨by rw [hR]; rfl, rfl⟩
/-- What a method of a row tells. -/
def RowR {α : Type} (N : Nat) (K : Nat → Prop) (n : Int) (w : World) (r : Option (α × List Nm)) (val : α → Value) (x : Ending) (w' : World) : Prop :=
  match r with
  | some (v, t) => x = .returned (val v) ∧ RowAt w' N K t n ∧ Ag (fun b => b ≠ N) w w'
  | none => x = Thrown 120 n ∧ Ag (fun b => b ≠ N) w w'
def iV (x : Int) : Value := .int .i64 x
theorem reg_pos {s : Nm} {n : Int} (h : regP s = some n) : 0 ≤ n := by
  unfold regP at h
  obtain ⟨k, _, e⟩ := Option.map_eq_some_iff.1 h
  omega
theorem RowAt.lt {w : World} {N : Nat} {K : Nat → Prop} {l : List Nm} {n : Int} (h : RowAt w N K l n) : N < w.heap.size := by
  obtain ⟨A, c, hb, _⟩ := h.row
  exact hb.lt
theorem num_tok {s : Nm} (hs : TokOk s) {v : Int} (ha : Lib.atoiAll s = .ok v) : s.head? ≠ some 43 ∧ s.head? ≠ some 45 := by
  rcases hs.2.2 with hw | ⟨c, rfl, hc⟩
  · constructor
    all_goals
      intro e
      have := List.all_eq_true.1 hw _ (List.mem_of_mem_head? e)
      exact absurd this (by decide)
  · constructor
    all_goals
      intro e
      simp at e
      subst e
      have e0 : (match Lib.atoiAll [43] with | .ok _ => true | _ => false) = false ∧ (match Lib.atoiAll [45] with | .ok _ => true | _ => false) = false := by decide
      first
        | (have q := e0.1; rw [ha] at q; cases q)
        | (have q := e0.2; rw [ha] at q; cases q)
theorem num_none {s : Nm} (hs : TokOk s) (h : ∀ v, Lib.atoiAll s ≠ .ok v) : numP s = none := by
  cases hn : numP s with
  | none => rfl
  | some n =>
    exfalso
    obtain ⟨u, rfl, rfl, hu⟩ := numP_some hn
    have h1 : (Lib.decDigits u).head? ≠ some 43 := fun e => absurd (dec_head_dig u 43 e) (by decide)
    have h2 : (Lib.decDigits u).head? ≠ some 45 := fun e => absurd (dec_head_dig u 45 e) (by decide)
    exact h _ ((num_iff h1 h2 _).1 hn).1
theorem RowR.lift {α : Type} {N : Nat} {K : Nat → Prop} {n : Int} {w w1 w' : World} {r : Option (α × List Nm)} {val : α → Value} {x : Ending} (h : RowR N K n w1 r val x w') (ha : Ag (fun b => b ≠ N) w w1) : RowR N K n w r val x w' := by
  cases r with
  | none => exact ⟨h.1, ha.trans h.2⟩
  | some p => exact ⟨h.1, h.2.1, ha.trans h.2.2⟩
section
variable {w : World} {N : Nat} {K : Nat → Prop} {l : List Nm} {n : Int} (h : RowAt w N K l n)
include h
theorem reg_any : Calls Tryz.prog 132 #[.pointer (some ⟨N, 0, none⟩)] w fun x w' => RowR N K n w (regT l) iV x w' := by
  have htake := take_any h h.lt
  cases l with
  | nil =>
    go_enter Tryz.func132, Tryz.ntmps132
    go_wp2_with fail
    refine htake.mono ?_
    rintro _ w1 ⟨rfl, rfl⟩
    exact ⟨rfl, rfl, Ag.refl _ _⟩
  | cons s t =>
    cases hr : regP s with
    | none =>
      have hR : regI s = -1 := by unfold regI; rw [hr]; rfl
      have hreg := register_any s
      rw [hR] at hreg
      go_enter Tryz.func132, Tryz.ntmps132
      go_wp2_with fail
      refine htake.mono ?_
      rintro _ w1 ⟨rfl, h1, a1⟩
      have hbad := bad_any h1
      go_wp2_with fail
      refine (hreg w1).mono ?_
      rintro _ w2 ⟨rfl, rfl⟩
      go_wp2_with fail
      refine hbad.mono ?_
      rintro _ w2 ⟨rfl, rfl⟩
      refine ⟨rfl, ?_⟩
      simp only [RowR, regT, hr, Option.map_none]
      exact ⟨rfl, a1⟩
    | some v =>
      have hR : regI s = v := by unfold regI; rw [hr]; rfl
      have hv := reg_pos hr
      have d1 : decide (v < 0) = false := decide_eq_false (by omega)
      have hreg := register_any s
      rw [hR] at hreg
      go_enter Tryz.func132, Tryz.ntmps132
      go_wp2_with fail
      refine htake.mono ?_
      rintro _ w1 ⟨rfl, h1, a1⟩
      go_wp2_with fail
      refine (hreg w1).mono ?_
      rintro _ w2 ⟨rfl, rfl⟩
      go_wp2_with fail
      go_ret
      simp only [RowR, regT, hr, Option.map_some]
      exact ⟨rfl, h1, a1⟩
theorem number_any {B : Nat} (hv : Tv B w) (hB : B ≤ N) : Calls Tryz.prog 184 #[.pointer (some ⟨N, 0, none⟩)] w fun x w' => RowR N K n w (numT l) iV x w' := by
  have htake := take_any h h.lt
  cases l with
  | nil =>
    go_enter Tryz.func184, Tryz.ntmps184
    go_wp2_with fail
    refine htake.mono ?_
    rintro _ w1 ⟨rfl, rfl⟩
    exact ⟨rfl, rfl, Ag.refl _ _⟩
  | cons s t =>
    have hs := h.ok s (List.mem_cons_self ..)
    have hsl := hs.2.1
    have hNl := h.lt
    have hv1 : ∀ w1, Ag (fun b => b ≠ N) w w1 → Tv B w1 := fun w1 a1 => hv.ag a1 (by omega) (fun i hi e => by omega)
    have bad : ∀ w1 w2 : World, RowAt w1 N K t n → Ag (fun b => b ≠ N) w w1 → Below w1.heap.size w1 w2 → RowAt w2 N K t n ∧ Ag (fun b => b ≠ N) w w2 := fun w1 w2 h1 a1 b => ⟨h1.below b, a1.trans (Ag.of_below _ b)⟩
    cases hat : Lib.atoiAll s with
    | ok v =>
      obtain ⟨hs1, hs2⟩ := num_tok hs hat
      have hiff := num_iff hs1 hs2 v
      have hbd := Lib.atoiAll_bounds hat
      have hx : (((⟨s.toArray⟩ : ByteArray).size : Nat) : Int) = (s.length : Int) := by show ((s.toArray.size : Nat) : Int) = _; simp
      by_cases h10 : s.length ≤ 10
      · have d1 : decide ((10 : Int) < (s.length : Int)) = false := decide_eq_false (by omega)
        by_cases heq : Lib.itoa v = s
        · have hn : numP s = some v := hiff.2 ⟨hat, h10, heq⟩
          have q2 : (Lib.itoa v == s) = true := by simpa using heq
          go_enter Tryz.func184, Tryz.ntmps184
          go_wp2_with fail
          refine htake.mono ?_
          rintro _ w1 ⟨rfl, h1, a1⟩
          have hcon := Tryz.strconv_Atoi_ok ⟨s.toArray⟩ (by show s.toArray.size ≤ _; simp; omega) v hat w1
          go_wp2_with fail
          refine hcon.mono ?_
          rintro _ w2 ⟨rfl, hw2⟩
          have b2 : Below w1.heap.size w1 w2 := by
            rcases hw2 with rfl | ⟨t', rfl⟩
            · exact Below.refl _ _
            · exact Go.Joins.below_bytesWorld _ _ _ _ (Nat.le_refl _)
          obtain ⟨h2, a2⟩ := bad w1 w2 h1 a1 b2
          have hcon2 := itoa_any v hbd.1 hbd.2 w2 (hv1 w2 a2)
          clear hw2
          go_wp2_with fail
          refine hcon2.mono ?_
          rintro _ w3 ⟨rfl, b3⟩
          obtain ⟨h3, a3⟩ := bad w2 w3 h2 a2 b3
          go_wp2_with fail
          go_ret
          simp only [RowR, numT, hn, Option.map_some]
          exact ⟨rfl, h3, a3⟩
        · have hn : numP s = none := by
            cases hq : numP s with
            | none => rfl
            | some m =>
              exfalso
              obtain ⟨e1, e2, e3⟩ := (num_iff hs1 hs2 m).1 hq
              rw [hat] at e1
              injection e1 with e1
              exact heq (e1 ▸ e3)
          have q2 : (Lib.itoa v == s) = false := by simpa using heq
          go_enter Tryz.func184, Tryz.ntmps184
          go_wp2_with fail
          refine htake.mono ?_
          rintro _ w1 ⟨rfl, h1, a1⟩
          have hcon := Tryz.strconv_Atoi_ok ⟨s.toArray⟩ (by show s.toArray.size ≤ _; simp; omega) v hat w1
          go_wp2_with fail
          refine hcon.mono ?_
          rintro _ w2 ⟨rfl, hw2⟩
          have b2 : Below w1.heap.size w1 w2 := by
            rcases hw2 with rfl | ⟨t', rfl⟩
            · exact Below.refl _ _
            · exact Go.Joins.below_bytesWorld _ _ _ _ (Nat.le_refl _)
          obtain ⟨h2, a2⟩ := bad w1 w2 h1 a1 b2
          have hcon2 := itoa_any v hbd.1 hbd.2 w2 (hv1 w2 a2)
          clear hw2
          go_wp2_with fail
          refine hcon2.mono ?_
          rintro _ w3 ⟨rfl, b3⟩
          obtain ⟨h3, a3⟩ := bad w2 w3 h2 a2 b3
          have hbad := bad_any h3
          go_wp2_with fail
          refine hbad.mono ?_
          rintro _ w4 ⟨rfl, rfl⟩
          refine ⟨rfl, ?_⟩
          simp only [RowR, numT, hn, Option.map_none]
          exact ⟨rfl, a3⟩
      · have d1 : decide ((10 : Int) < (s.length : Int)) = true := decide_eq_true (by omega)
        have hn : numP s = none := by
          cases hq : numP s with
          | none => rfl
          | some m => exact absurd ((num_iff hs1 hs2 m).1 hq).2.1 h10
        go_enter Tryz.func184, Tryz.ntmps184
        go_wp2_with fail
        refine htake.mono ?_
        rintro _ w1 ⟨rfl, h1, a1⟩
        have hcon := Tryz.strconv_Atoi_ok ⟨s.toArray⟩ (by show s.toArray.size ≤ _; simp; omega) v hat w1
        go_wp2_with fail
        refine hcon.mono ?_
        rintro _ w2 ⟨rfl, hw2⟩
        have b2 : Below w1.heap.size w1 w2 := by
          rcases hw2 with rfl | ⟨t', rfl⟩
          · exact Below.refl _ _
          · exact Go.Joins.below_bytesWorld _ _ _ _ (Nat.le_refl _)
        obtain ⟨h2, a2⟩ := bad w1 w2 h1 a1 b2
        clear hw2
        have hbad := bad_any h2
        go_wp2_with fail
        refine hbad.mono ?_
        rintro _ w4 ⟨rfl, rfl⟩
        refine ⟨rfl, ?_⟩
        simp only [RowR, numT, hn, Option.map_none]
        exact ⟨rfl, a2⟩
    | range =>
      have hn := num_none hs (fun v e => by rw [hat] at e; cases e)
      go_enter Tryz.func184, Tryz.ntmps184
      go_wp2_with fail
      refine htake.mono ?_
      rintro _ w1 ⟨rfl, h1, a1⟩
      obtain ⟨tp, p, e⟩ := (hv1 w1 a1).ra
      have hcon := Tryz.strconv_Atoi_range_var ⟨s.toArray⟩ (by show s.toArray.size ≤ _; simp; omega) hat tp p w1 e
      go_wp2_with fail
      refine hcon.mono ?_
      rintro _ w2 ⟨M, rfl, _, _, b2⟩
      obtain ⟨h2, a2⟩ := bad w1 w2 h1 a1 b2
      have hbad := bad_any h2
      go_wp2_with fail
      refine hbad.mono ?_
      rintro _ w2 ⟨rfl, rfl⟩
      refine ⟨rfl, ?_⟩
      simp only [RowR, numT, hn, Option.map_none]
      exact ⟨rfl, a2⟩
    | _ =>
      have hn := num_none hs (fun v e => by rw [hat] at e; cases e)
      go_enter Tryz.func184, Tryz.ntmps184
      go_wp2_with fail
      refine htake.mono ?_
      rintro _ w1 ⟨rfl, h1, a1⟩
      obtain ⟨tp, p, e⟩ := (hv1 w1 a1).sy
      have hcon : Calls Tryz.prog 213 #[.string ⟨s.toArray⟩] w1 fun e w' => ∃ N, e = .returned (.tuple #[.int .i64 0, .iface 335 (.pointer (some ⟨N, 0, none⟩))]) ∧ w1.heap.size ≤ N ∧ w'.heap[N]? = some (.cells #[.string ⟨#[65, 116, 111, 105]⟩, .string ⟨s.toArray⟩, .iface tp p] 344 (0, 0)) ∧ Below w1.heap.size w1 w' := Go.Proofs.Any.strconv_Atoi_syntax_var Tryz.laysC172 ⟨s.toArray⟩ (by show s.toArray.size ≤ _; simp; omega) hat tp p w1 e
      go_wp2_with fail
      refine hcon.mono ?_
      rintro _ w2 ⟨M, rfl, _, _, b2⟩
      obtain ⟨h2, a2⟩ := bad w1 w2 h1 a1 b2
      have hbad := bad_any h2
      go_wp2_with fail
      refine hbad.mono ?_
      rintro _ w2 ⟨rfl, rfl⟩
      refine ⟨rfl, ?_⟩
      simp only [RowR, numT, hn, Option.map_none]
      exact ⟨rfl, a2⟩
theorem signed_any {B : Nat} (hv : Tv B w) (hB : B ≤ N) : Calls Tryz.prog 130 #[.pointer (some ⟨N, 0, none⟩)] w fun x w' => RowR N K n w (signT l) iV x w' := by
  have hNl := h.lt
  have hw1 := (Below.refl w.heap.size w).alloc (Nat.le_refl _) (.cells #[.string ⟨#[43]⟩, .string ⟨#[45]⟩] 9)
  have hB1 := Bk.new w 9 [.string ⟨#[43]⟩, .string ⟨#[45]⟩]
  have h1 := h.below hw1
  have hv1 := hv.below hw1 (by omega)
  have htake := takeM_any h1 h1.lt [[43], [45]] w.heap.size 2 (by simp) (by simp) (fun j m hj => by
    have := hB1.cell j
    rw [this]
    match j, hj with
    | 0, hj => simp at hj; subst hj; rfl
    | 1, hj => simp at hj; subst hj; rfl
    | j + 2, hj => simp at hj)
  cases l with
  | nil =>
    go_enter Tryz.func130, Tryz.ntmps130
    go_wp2_with fail
    refine htake.mono ?_
    rintro _ w1 ⟨rfl, rfl⟩
    exact ⟨rfl, rfl, Ag.of_below _ hw1⟩
  | cons s t =>
    have hnum := fun w1 (hr : RowAt w1 N K t n) (a1 : Ag (fun b => b ≠ N) (w.alloc (.cells #[.string ⟨#[43]⟩, .string ⟨#[45]⟩] 9)) w1) => number_any hr (hv1.ag a1 (by rw [World.size_alloc]; omega) (fun i hi e => by omega)) hB
    simp only [List.length_cons, List.length_nil] at htake
    by_cases hp : s = [43]
    · subst hp
      simp only [List.mem_cons, true_or, if_true] at htake
      have hS : signT ([43] :: t) = numT t := by simp [signT]
      rw [hS]
      cases hq : numT t with
      | none =>
        simp only [hq] at hnum
        go_enter Tryz.func130, Tryz.ntmps130
        go_wp2_with fail
        refine htake.mono ?_
        rintro _ w1 ⟨rfl, h2, a1⟩
        go_wp2_with fail
        refine (hnum w1 h2 a1).mono ?_
        rintro _ w2 ⟨rfl, a2⟩
        exact ⟨rfl, rfl, (Ag.of_below _ hw1).trans (a1.trans a2)⟩
      | some p =>
        simp only [hq] at hnum
        go_enter Tryz.func130, Tryz.ntmps130
        go_wp2_with fail
        refine htake.mono ?_
        rintro _ w1 ⟨rfl, h2, a1⟩
        go_wp2_with fail
        refine (hnum w1 h2 a1).mono ?_
        rintro _ w2 ⟨rfl, h3, a2⟩
        go_wp2_with fail
        go_ret
        exact ⟨rfl, h3, (Ag.of_below _ hw1).trans (a1.trans a2)⟩
    · by_cases hm : s = [45]
      · subst hm
        simp only [List.mem_cons, true_or, or_true, if_true] at htake
        have hS : signT ([45] :: t) = (numT t).map (fun p => (-p.1, p.2)) := by simp [signT]
        rw [hS]
        cases hq : numT t with
        | none =>
          simp only [hq] at hnum
          go_enter Tryz.func130, Tryz.ntmps130
          go_wp2_with fail
          refine htake.mono ?_
          rintro _ w1 ⟨rfl, h2, a1⟩
          go_wp2_with fail
          refine (hnum w1 h2 a1).mono ?_
          rintro _ w2 ⟨rfl, a2⟩
          exact ⟨rfl, rfl, (Ag.of_below _ hw1).trans (a1.trans a2)⟩
        | some p =>
          obtain ⟨u, hu1, hu2⟩ : ∃ u : Nat, p.1 = u ∧ u < 10000000000 := by
            cases t with
            | nil => simp [numT] at hq
            | cons y t =>
              simp only [numT] at hq
              obtain ⟨m, hm, e⟩ := Option.map_eq_some_iff.1 hq
              obtain ⟨u, h1, _, h3⟩ := numP_some hm
              exact ⟨u, by rw [← e]; exact h1, h3⟩
          have hwr : IntKind.i64.wrap (-p.1) = -p.1 := by rw [hu1, IntKind.wrap_i64]; omega
          simp only [hq, Option.map_some] at hnum ⊢
          go_enter Tryz.func130, Tryz.ntmps130
          go_wp2_with fail
          refine htake.mono ?_
          rintro _ w1 ⟨rfl, h2, a1⟩
          go_wp2_with fail
          refine (hnum w1 h2 a1).mono ?_
          rintro _ w2 ⟨rfl, h3, a2⟩
          unfold iV
          go_wp2_with fail
          go_ret
          refine ⟨?_, h3, (Ag.of_below _ hw1).trans (a1.trans a2)⟩
          first
            | rfl
            | (rw [hu1]; rfl)
      · have hno : s ∉ [[43], [45]] := by simp [hp, hm]
        simp only [hno, if_false] at htake
        have hS : signT (s :: t) = none := by simp [signT, hp, hm]
        rw [hS]
        go_enter Tryz.func130, Tryz.ntmps130
        go_wp2_with fail
        refine htake.mono ?_
        rintro _ w1 ⟨rfl, rfl⟩
        exact ⟨rfl, rfl, Ag.of_below _ hw1⟩
end
end Go.Proofs.YtjebjninlejoeaaGreatDoor

