/- net: the document's net, in plain words. -/
import Derived.Test.YtenkhbiikecegaaGreatNOp
namespace Go.Proofs.YtenkhbiikecegaaGreat
open Go.RowKit Go.Maps Go.ChangeMaps
set_option linter.unusedVariables false
set_option linter.unusedSimpArgs false
set_option maxRecDepth 100000

/-- A packet of the document's net. -/
structure RP where
  a : Int
  b : Int
  v : PV
def RP.is (p : RP) (a b : Int) : Bool := decide (p.a = a ∧ p.b = b)
theorem RP.is_true {p : RP} {a b : Int} : p.is a b = true ↔ p.a = a ∧ p.b = b := by simp [RP.is]
def RP.cs (p : RP) : List Value := [.int .i64 p.a, .int .i64 p.b, p.v.val]
def rpV (P : List RP) : List Value := P.flatMap RP.cs
/-- The packets of a link. -/
def rS (P : List RP) (a b : Int) : List (List Int) := (P.filter fun p => p.is a b).map fun p => p.v.l
def rc (P : List RP) (a b : Int) : Nat := P.countP fun p => p.is a b
theorem rS_len (P : List RP) (a b : Int) : (rS P a b).length = rc P a b := by simp [rS, rc, List.countP_eq_length_filter]
theorem rpV_len : ∀ (P : List RP), (rpV P).length = P.length * 3
  | [] => rfl
  | p :: P => by
    have := rpV_len P
    unfold rpV at *
    simp only [List.flatMap_cons, List.length_append, List.length_cons, RP.cs, List.length_nil]
    omega
theorem rpV_app (P Q : List RP) : rpV (P ++ Q) = rpV P ++ rpV Q := by simp [rpV]
theorem rpV_take (P : List RP) (i : Nat) (h : i ≤ P.length) : (rpV P).take (i * 3) = rpV (P.take i) := by
  conv => lhs; rw [← List.take_append_drop i P, rpV_app]
  rw [List.take_append_of_le_length (by rw [rpV_len, List.length_take]; omega), List.take_of_length_le (by rw [rpV_len, List.length_take]; omega)]
theorem rpV_drop (P : List RP) (i : Nat) (h : i ≤ P.length) : (rpV P).drop (i * 3) = rpV (P.drop i) := by
  conv => lhs; rw [← List.take_append_drop i P, rpV_app]
  rw [List.drop_append_of_le_length (by rw [rpV_len, List.length_take]; omega), List.drop_eq_nil_of_le (by rw [rpV_len, List.length_take]; omega), List.nil_append]
theorem rpV_at {P : List RP} {i : Nat} {p : RP} (h : P[i]? = some p) {j : Nat} (hj : j < 3) : (rpV P)[i * 3 + j]? = p.cs[j]? := by
  obtain ⟨h1, h2⟩ := List.getElem?_eq_some_iff.1 h
  rw [← List.getElem?_drop, rpV_drop _ _ (by omega), List.drop_eq_getElem_cons h1, h2]
  unfold rpV
  rw [List.flatMap_cons, List.getElem?_append_left (by simpa [RP.cs] using hj)]
theorem rpV_erase (P : List RP) (i : Nat) (h : i < P.length) : rpV (P.eraseIdx i) = (rpV P).take (i * 3) ++ (rpV P).drop ((i + 1) * 3) := by
  rw [List.eraseIdx_eq_take_drop_succ, rpV_app, rpV_take _ _ (by omega), rpV_drop _ _ (by omega)]
theorem rpV_one (P : List RP) : ∀ u ∈ rpV P, u.oneCell' = true := by
  intro u hu
  obtain ⟨p, _, hp⟩ := List.mem_flatMap.1 hu
  simp [RP.cs] at hp
  rcases hp with rfl | rfl | rfl <;> rfl
theorem split_at {P : List RP} {i : Nat} {p : RP} (h : P[i]? = some p) : P = P.take i ++ p :: P.drop (i + 1) := by
  obtain ⟨h1, h2⟩ := List.getElem?_eq_some_iff.1 h
  rw [← h2, ← List.drop_eq_getElem_cons h1, List.take_append_drop]
theorem rS_app (P Q : List RP) (x y : Int) : rS (P ++ Q) x y = rS P x y ++ rS Q x y := by simp [rS]
theorem rS_one (p : RP) (x y : Int) : rS [p] x y = if p.a = x ∧ p.b = y then [p.v.l] else [] := by
  unfold rS
  by_cases h : p.a = x ∧ p.b = y
  · rw [if_pos h]
    simp [RP.is, h.1, h.2]
  · rw [if_neg h]
    have : p.is x y = false := Bool.eq_false_iff.2 (fun e => h (RP.is_true.1 e))
    simp [this]
theorem rS_push (P : List RP) (q : RP) (x y : Int) : rS (P ++ [q]) x y = if q.a = x ∧ q.b = y then rS P x y ++ [q.v.l] else rS P x y := by
  rw [rS_app, rS_one]
  split <;> simp
theorem rS_erase {P : List RP} {i : Nat} {p : RP} (h : P[i]? = some p) (x y : Int) : rS (P.eraseIdx i) x y = if p.a = x ∧ p.b = y then (rS P x y).eraseIdx (rc (P.take i) x y) else rS P x y := by
  rw [List.eraseIdx_eq_take_drop_succ, rS_app]
  have hP : rS P x y = rS (P.take i) x y ++ (rS [p] x y ++ rS (P.drop (i + 1)) x y) := by
    conv => lhs; rw [split_at h]
    rw [rS_app, show p :: P.drop (i + 1) = [p] ++ P.drop (i + 1) from rfl, rS_app]
  rw [hP, rS_one]
  by_cases hp : p.a = x ∧ p.b = y
  · rw [if_pos hp, if_pos hp, ← rS_len, List.eraseIdx_append_of_length_le (Nat.le_refl _), Nat.sub_self]
    rfl
  · rw [if_neg hp, if_neg hp, List.nil_append]
theorem rS_at {P : List RP} {i : Nat} {p : RP} (h : P[i]? = some p) : (rS P p.a p.b)[rc (P.take i) p.a p.b]? = some p.v.l := by
  conv => lhs; rw [split_at h]
  have : rc (P.take i) p.a p.b = (rS (P.take i) p.a p.b).length := (rS_len _ _ _).symm
  rw [rS_app, show p :: P.drop (i + 1) = [p] ++ P.drop (i + 1) from rfl, rS_app, rS_one, if_pos ⟨rfl, rfl⟩]
  have e : (P.take i ++ p :: P.drop (i + 1)).take i = P.take i := by rw [← split_at h]
  rw [show ([p] ++ P.drop (i + 1)) = p :: P.drop (i + 1) from rfl, e, this, List.getElem?_append_right (Nat.le_refl _), Nat.sub_self]
  rfl
theorem rS_mem {P : List RP} {x y : Int} : rS P x y ≠ [] ↔ ∃ p ∈ P, p.a = x ∧ p.b = y := by
  unfold rS
  rw [ne_eq, List.map_eq_nil_iff, List.filter_eq_nil_iff]
  constructor
  · intro h
    refine Classical.byContradiction fun hn => h fun p hp e => hn ⟨p, hp, RP.is_true.1 e⟩
  · rintro ⟨p, hp, he⟩ h
    exact h p hp (RP.is_true.2 he)
theorem rc_succ {P : List RP} {i : Nat} {p : RP} (h : P[i]? = some p) (x y : Int) : rc (P.take (i + 1)) x y = rc (P.take i) x y + if p.a = x ∧ p.b = y then 1 else 0 := by
  unfold rc
  rw [List.take_add_one, h, List.countP_append]
  simp [RP.is]
theorem rc_le (P : List RP) (i : Nat) (x y : Int) : rc (P.take i) x y ≤ i := Nat.le_trans List.countP_le_length (by simp; omega)
theorem rc_all (P : List RP) (x y : Int) : rc (P.take P.length) x y = rc P x y := by rw [List.take_length]
theorem rc_lt {P : List RP} {i : Nat} {p : RP} (h : P[i]? = some p) (x y : Int) (hp : p.a = x ∧ p.b = y) : rc (P.take i) x y < rc P x y := by
  have h1 := rc_succ h x y
  rw [if_pos hp] at h1
  have h2 : rc (P.take (i + 1)) x y ≤ rc P x y := by
    unfold rc
    exact (List.take_sublist _ _).countP_le
  omega
end Go.Proofs.YtenkhbiikecegaaGreat
