/- net: the document's net in memory; New, Waiting, place. -/
import Derived.Test.YtenkhbiikecegaaGreatMRef
import Derived.Test.YtenkhbiikecegaaGreatNDo
namespace Go.Proofs.YtenkhbiikecegaaGreat
open Go.RowKit Go.Maps Go.ChangeMaps
set_option linter.unusedVariables false
set_option linter.unusedSimpArgs false
set_option maxRecDepth 100000

/-- The document's net lies in block R, all its memory in blocks of B. -/
structure RN (B : Nat → Prop) (R : Nat) (P : List RP) (n : Nat) (v : Value) (g : Nat) (w : World) : Prop where
  bk : Bk w R 51 [v]
  row : Row w 60 3 v g P.length (rpV P)
  own : v.ownBlock = some g → B g
  hR : B R
  lt : ∀ j, B j → j < w.heap.size
  dat : ∀ p ∈ P, I64 p.a ∧ I64 p.b ∧ p.v.l.length ≤ 262144 ∧ Dat w B p.v.A p.v.c p.v.l
  few : P.length ≤ n
  nn : n ≤ 1000000
def RB (B : Nat → Prop) (R : Nat) (S : Sg) (n : Nat) (w : World) : Prop := ∃ P v g, RN B R P n v g w ∧ ∀ a b, rS P a b = S a b
theorem RN.keep {B : Nat → Prop} {R n g : Nat} {P : List RP} {v : Value} {w w' : World} (h : RN B R P n v g w) (hk : ∀ j, B j → w'.heap[j]? = w.heap[j]?) (hs : w.heap.size ≤ w'.heap.size) : RN B R P n v g w' :=
  ⟨(hk _ h.hR).trans h.bk, h.row.keep (fun e => hk _ (h.own e)), h.own, h.hR, fun j q => Nat.lt_of_lt_of_le (h.lt j q) hs, fun p hp => ⟨(h.dat p hp).1, (h.dat p hp).2.1, (h.dat p hp).2.2.1, (h.dat p hp).2.2.2.keep (fun b q _ => hk b q) hs (fun _ q _ => q)⟩, h.few, h.nn⟩
theorem RB.keep {B : Nat → Prop} {R n : Nat} {S : Sg} {w w' : World} (h : RB B R S n w) (hk : ∀ j, B j → w'.heap[j]? = w.heap[j]?) (hs : w.heap.size ≤ w'.heap.size) : RB B R S n w' := by
  obtain ⟨P, v, g, h1, h2⟩ := h
  exact ⟨P, v, g, h1.keep hk hs, h2⟩
theorem RB.lt {B : Nat → Prop} {R n : Nat} {S : Sg} {w : World} (h : RB B R S n w) {j : Nat} (hj : B j) : j < w.heap.size := by
  obtain ⟨P, v, g, h1, h2⟩ := h
  exact h1.lt j hj
theorem RB.below {B : Nat → Prop} {R n : Nat} {S : Sg} {w w' : World} (h : RB B R S n w) (hb : Below w.heap.size w w') : RB B R S n w' :=
  h.keep (fun j q => hb.block j (h.lt q)) hb.size
theorem RN.cellR {B : Nat → Prop} {R n g : Nat} {P : List RP} {v : Value} {w : World} (h : RN B R P n v g w) : w.cell? ⟨R, 0, none⟩ = some v := by
  have := h.bk.cell 0
  simpa using this
theorem RN.form {B : Nat → Prop} {R n g : Nat} {P : List RP} {v : Value} {w : World} (h : RN B R P n v g w) : ∃ A c, v = .slice A P.length c ∧ P.length ≤ c ∧ c ≤ maxLen ∧ (P ≠ [] → A = some ⟨g, 0, none⟩ ∧ v.ownBlock = some g) := by
  rcases h.row.2 with ⟨e1, e2⟩ | ⟨cap, cur, e1, hg, h2, h3, h4, h5⟩
  · exact ⟨none, 0, by rw [e1, e2], Nat.le_of_eq e2, by decide, fun hn => absurd (List.eq_nil_of_length_eq_zero e2) hn⟩
  · exact ⟨_, cap, e1, h2, h3, fun _ => ⟨rfl, by rw [e1]; rfl⟩⟩
/-- A packet's cells. -/
theorem RN.at_ {B : Nat → Prop} {R n g : Nat} {P : List RP} {v : Value} {w : World} (h : RN B R P n v g w) {i : Nat} (hi : i < P.length) : ∃ p c, P[i]? = some p ∧ p ∈ P ∧ v = .slice (some ⟨g, 0, none⟩) P.length c ∧ v.ownBlock = some g ∧
    w.cell? ⟨g, i * 3, none⟩ = some (.int .i64 p.a) ∧ w.cell? ⟨g, i * 3 + 1, none⟩ = some (.int .i64 p.b) ∧ w.cell? ⟨g, i * 3 + 2, none⟩ = some p.v.val := by
  obtain ⟨A, c, hv, _, _, hA⟩ := h.form
  obtain ⟨rfl, ho⟩ := hA (by rintro rfl; simp at hi)
  have hadd : ∀ j, (⟨g, 0, none⟩ : Addr).add j = ⟨g, j, none⟩ := fun j => by unfold Addr.add; split <;> simp_all
  have hp : P[i]? = some P[i] := List.getElem?_eq_getElem hi
  have hc : ∀ j u, (rpV P)[j]? = some u → w.cell? ⟨g, j, none⟩ = some u := fun j u hu => by rw [← hadd]; exact h.row.cells (by rw [ho]; simp) j u hu
  exact ⟨P[i], c, hp, List.getElem_mem hi, hv, ho, hc _ _ ((rpV_at hp (j := 0) (by omega)).trans rfl), hc _ _ ((rpV_at hp (j := 1) (by omega)).trans rfl), hc _ _ ((rpV_at hp (j := 2) (by omega)).trans rfl)⟩
theorem rnew_any (w : World) : Calls Tryz.prog 6 #[] w fun e w' => ∃ R, e = .returned (.pointer (some ⟨R, 0, none⟩)) ∧ (∃ B, (∀ j, B j → w.heap.size ≤ j) ∧ RB B R (fun _ _ => []) 0 w') ∧ Below w.heap.size w w' := by
  go_enter Tryz.func6, Tryz.ntmps6
  go_wp2_with fail
  go_ret
  refine ⟨w.heap.size, rfl, ⟨fun j => j = w.heap.size, fun j e => Nat.le_of_eq e.symm, [], .slice none 0 0, 0, ⟨Bk.new w _ _, Row.nil _ _ _ _, (fun e => by cases e), rfl, fun j e => by simp [e], by simp, Nat.le_refl _, by decide⟩, fun _ _ => rfl⟩, (Below.refl _ _).alloc (Nat.le_refl _) _⟩
set_option maxHeartbeats 1000000 in
theorem rwait_any {B : Nat → Prop} {R n g : Nat} {P : List RP} {v : Value} {w : World} (a b : Int) (h : RN B R P n v g w) : Calls Tryz.prog 10 #[.pointer (some ⟨R, 0, none⟩), .int .i64 a, .int .i64 b] w fun e w' => e = .returned (.int .i64 (rc P a b)) ∧ w' = w := by
  have hmax : P.length ≤ 1000000 := Nat.le_trans h.few h.nn
  have cR := h.cellR
  obtain ⟨A, c, rfl, hl, hm, hA⟩ := h.form
  clear hA
  have H := Lib.hid h
  clear h
  go_enter Tryz.func10, Tryz.ntmps10
  go_wp2_with fail
  go_loopw [7, 8] (fun o i wr => ∃ k : Nat, k ≤ P.length ∧ i = .int .i64 k ∧ o = .int .i64 (rc (P.take k) a b) ∧ wr = w) (fun _ i _ => P.length - (intOf i).toNat)
  case atStart => exact ⟨0, Nat.zero_le _, rfl, rfl, rfl⟩
  case round =>
    obtain ⟨k, hk, rfl, rfl, rfl⟩ := hrel
    by_cases hlt : k < P.length
    · have d1 : decide ((k : Int) < (P.length : Int)) = true := decide_eq_true (by omega)
      obtain ⟨p, c', hp, _, hv, _, ca, cb, _⟩ := H.out.at_ hlt
      injection hv with hv1 _ hv2
      subst hv1 hv2
      have hle := rc_le P k a b
      have hsu := rc_succ hp a b
      by_cases e1 : p.a = a
      · have t1 : (p.a == a) = true := by simpa using e1
        by_cases e2 : p.b = b
        · have t2 : (p.b == b) = true := by simpa using e2
          rw [if_pos ⟨e1, e2⟩] at hsu
          clear e1 e2
          go_wp2_with fail
          go_roundw
          case rel => exact ⟨k + 1, by omega, by go_num, by rw [hsu]; go_num, trivial⟩
          case measure => simp [intOf] <;> omega
        · have t2 : (p.b == b) = false := by simpa using e2
          rw [if_neg (fun e => e2 e.2)] at hsu
          clear e1 e2
          go_wp2_with fail
          go_roundw
          case rel => exact ⟨k + 1, by omega, by go_num, by rw [hsu, Nat.add_zero], trivial⟩
          case measure => simp [intOf] <;> omega
      · have t1 : (p.a == a) = false := by simpa using e1
        rw [if_neg (fun e => e1 e.1)] at hsu
        clear e1
        go_wp2_with fail
        go_roundw
        case rel => exact ⟨k + 1, by omega, by go_num, by rw [hsu, Nat.add_zero], trivial⟩
        case measure => simp [intOf] <;> omega
    · have d1 : decide ((k : Int) < (P.length : Int)) = false := decide_eq_false (by omega)
      obtain rfl : k = P.length := by omega
      rw [rc_all]
      go_wp2_with fail
      go_ret
      exact ⟨rfl, rfl⟩
/-- What place tells. -/
def Plc (P : List RP) (a b k : Int) (x : Int) : Prop := (∃ i p, P[i]? = some p ∧ p.a = a ∧ p.b = b ∧ (rc (P.take i) a b : Int) = k ∧ x = (i : Int)) ∨ (x = -1 ∧ ¬ (0 ≤ k ∧ k < rc P a b))
theorem wrap_dec (k : Int) (c : Nat) : IntKind.i64.wrap (IntKind.i64.wrap (k - (c : Int)) - 1) = IntKind.i64.wrap (k - ((c + 1 : Nat) : Int)) := by
  rw [IntKind.wrap_i64, IntKind.wrap_i64, IntKind.wrap_i64]
  omega
theorem wrap_zero (k : Int) (c : Nat) (hk : I64 k) (hc : c ≤ 1000000) : IntKind.i64.wrap (k - (c : Int)) = 0 ↔ (c : Int) = k := by
  unfold I64 at hk
  rw [IntKind.wrap_i64]
  omega
set_option maxHeartbeats 1000000 in
theorem place_any {B : Nat → Prop} {R n g : Nat} {P : List RP} {v : Value} {w : World} (a b k : Int) (hk : I64 k) (h : RN B R P n v g w) : Calls Tryz.prog 43 #[.pointer (some ⟨R, 0, none⟩), .int .i64 a, .int .i64 b, .int .i64 k] w fun e w' => (∃ x, e = .returned (.int .i64 x) ∧ Plc P a b k x) ∧ w' = w := by
  have hmax : P.length ≤ 1000000 := Nat.le_trans h.few h.nn
  have cR := h.cellR
  obtain ⟨A, c, rfl, hl, hm, hA⟩ := h.form
  clear hA
  have H := Lib.hid h
  have HK := Lib.hid hk
  clear h hk
  go_enter Tryz.func43, Tryz.ntmps43
  go_wp2_with fail
  go_loopw [3, 9] (fun o i wr => ∃ (m : Nat) (q : Int), m ≤ P.length ∧ i = .int .i64 m ∧ o = .int .i64 q ∧ Hid (q = IntKind.i64.wrap (k - (rc (P.take m) a b : Int)) ∧ (0 ≤ k → (rc (P.take m) a b : Int) ≤ k)) ∧ wr = w) (fun _ i _ => P.length - (intOf i).toNat)
  case atStart =>
    refine ⟨0, k, Nat.zero_le _, rfl, rfl, Lib.hid ⟨?_, fun h => h⟩, rfl⟩
    have := HK.out
    unfold I64 at this
    rw [IntKind.wrap_i64]
    show k = _
    simp only [List.take_zero, rc, List.countP_nil]
    omega
  case round =>
    obtain ⟨m, q, hm', rfl, rfl, hq, rfl⟩ := hrel
    by_cases hlt : m < P.length
    · have d1 : decide ((m : Int) < (P.length : Int)) = true := decide_eq_true (by omega)
      obtain ⟨p, c', hp, _, hv, _, ca, cb, _⟩ := H.out.at_ hlt
      injection hv with hv1 _ hv2
      subst hv1 hv2
      have hle := rc_le P m a b
      have hsu := rc_succ hp a b
      by_cases e1 : p.a = a
      · have t1 : (p.a == a) = true := by simpa using e1
        by_cases e2 : p.b = b
        · have t2 : (p.b == b) = true := by simpa using e2
          rw [if_pos ⟨e1, e2⟩] at hsu
          have hz := wrap_zero k (rc (P.take m) a b) HK.out (by omega)
          have hd := wrap_dec k (rc (P.take m) a b)
          have HE := Lib.hid (And.intro hp (And.intro e1 e2))
          clear e1 e2
          by_cases h0 : q = 0
          · have t3 : (q == 0) = true := by simpa using h0
            have HF : Hid ((rc (P.take m) a b : Int) = k) := Lib.hid (hz.1 (hq.out.1 ▸ h0))
            clear hz hd
            go_wp2_with fail
            go_ret
            exact ⟨⟨_, rfl, .inl ⟨m, p, HE.out.1, HE.out.2.1, HE.out.2.2, HF.out, rfl⟩⟩, rfl⟩
          · have t3 : (q == 0) = false := by simpa using h0
            have HF : Hid (IntKind.i64.wrap (q - 1) = IntKind.i64.wrap (k - (rc (P.take (m + 1)) a b : Int)) ∧ (0 ≤ k → (rc (P.take (m + 1)) a b : Int) ≤ k)) := Lib.hid (by
              rw [hsu, ← hd, ← hq.out.1]
              refine ⟨rfl, fun hk0 => ?_⟩
              have h1 := hq.out.2 hk0
              have h2 : ¬ ((rc (P.take m) a b : Int) = k) := fun e => h0 (hq.out.1.trans (hz.2 e))
              omega)
            clear hz hd h0
            go_wp2_with fail
            go_roundw
            case rel => exact ⟨m + 1, _, by omega, by go_num, rfl, by rw [← IntWalk.i64_left]; exact HF, trivial⟩
            case measure => simp [intOf] <;> omega
        · have t2 : (p.b == b) = false := by simpa using e2
          rw [if_neg (fun e => e2 e.2)] at hsu
          rw [← show rc (P.take (m + 1)) a b = rc (P.take m) a b from hsu] at hq
          clear e1 e2
          go_wp2_with fail
          go_roundw
          case rel => exact ⟨m + 1, q, by omega, by go_num, rfl, hq, trivial⟩
          case measure => simp [intOf] <;> omega
      · have t1 : (p.a == a) = false := by simpa using e1
        rw [if_neg (fun e => e1 e.1)] at hsu
        rw [← show rc (P.take (m + 1)) a b = rc (P.take m) a b from hsu] at hq
        clear e1
        go_wp2_with fail
        go_roundw
        case rel => exact ⟨m + 1, q, by omega, by go_num, rfl, hq, trivial⟩
        case measure => simp [intOf] <;> omega
    · have d1 : decide ((m : Int) < (P.length : Int)) = false := decide_eq_false (by omega)
      obtain rfl : m = P.length := by omega
      rw [rc_all] at hq
      go_wp2_with fail
      go_ret
      exact ⟨⟨_, rfl, .inr ⟨rfl, fun e => by have := hq.out.2 e.1; omega⟩⟩, rfl⟩
end Go.Proofs.YtenkhbiikecegaaGreat
