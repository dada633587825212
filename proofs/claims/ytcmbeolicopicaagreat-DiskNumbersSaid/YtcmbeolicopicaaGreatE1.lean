/- disk: the document's disk, in plain words. -/
import Derived.Test.YtcmbeolicopicaaGreatDCr
import Derived.Test.YtcmbeolicopicaaGreatZ6
namespace Go.Proofs.YtcmbeolicopicaaGreat
open Go.RowKit Go.Maps Go.ChangeMaps
set_option linter.unusedVariables false
set_option linter.unusedSectionVars false
set_option linter.unusedSimpArgs false
set_option maxRecDepth 100000

/-- A file of the document's disk. -/
structure RF where
  s : Nm
  A : Option Addr
  c : Nat
  l : List Int
  n : Nat
def RF.fe (f : RF) : FE := ⟨f.s, f.l, f.n⟩
def RF.dv (f : RF) : Value := .slice f.A f.l.length f.c
def RF.cs (f : RF) : List Value := [nmV f.s, f.dv, .int .i64 f.n]
def rfV (P : List RF) : List Value := P.flatMap RF.cs
theorem rfV_len : ∀ (P : List RF), (rfV P).length = P.length * 3
  | [] => rfl
  | p :: P => by
    have := rfV_len P
    unfold rfV at *
    simp only [List.flatMap_cons, List.length_append, List.length_cons, RF.cs, List.length_nil]
    omega
theorem rfV_app (P Q : List RF) : rfV (P ++ Q) = rfV P ++ rfV Q := by simp [rfV]
theorem rfV_one1 (p : RF) : rfV [p] = p.cs := by simp [rfV]
theorem rfV_take (P : List RF) (i : Nat) (h : i ≤ P.length) : (rfV P).take (i * 3) = rfV (P.take i) := by
  conv => lhs; rw [← List.take_append_drop i P, rfV_app]
  rw [List.take_append_of_le_length (by rw [rfV_len, List.length_take]; omega), List.take_of_length_le (by rw [rfV_len, List.length_take]; omega)]
theorem rfV_drop (P : List RF) (i : Nat) (h : i ≤ P.length) : (rfV P).drop (i * 3) = rfV (P.drop i) := by
  conv => lhs; rw [← List.take_append_drop i P, rfV_app]
  rw [List.drop_append_of_le_length (by rw [rfV_len, List.length_take]; omega), List.drop_eq_nil_of_le (by rw [rfV_len, List.length_take]; omega), List.nil_append]
theorem rfV_at {P : List RF} {i : Nat} {p : RF} (h : P[i]? = some p) {j : Nat} (hj : j < 3) : (rfV P)[i * 3 + j]? = p.cs[j]? := by
  obtain ⟨h1, h2⟩ := List.getElem?_eq_some_iff.1 h
  rw [← List.getElem?_drop, rfV_drop _ _ (by omega), List.drop_eq_getElem_cons h1, h2]
  unfold rfV
  rw [List.flatMap_cons, List.getElem?_append_left (by simpa [RF.cs] using hj)]
theorem rfV_one (P : List RF) : ∀ u ∈ rfV P, u.oneCell' = true := by
  intro u hu
  obtain ⟨p, _, hp⟩ := List.mem_flatMap.1 hu
  simp [RF.cs, nmV, RF.dv] at hp
  rcases hp with rfl | rfl | rfl <;> rfl
theorem rfV_set {P : List RF} {i : Nat} (h : i < P.length) (f : RF) : rfV (P.set i f) = (rfV P).take (i * 3) ++ f.cs ++ (rfV P).drop ((i + 1) * 3) := by
  rw [List.set_eq_take_append_cons_drop, if_pos h, rfV_take _ _ (by omega), rfV_drop _ _ (by omega), show f :: P.drop (i + 1) = [f] ++ P.drop (i + 1) from rfl, rfV_app, rfV_app, rfV_one1, List.append_assoc]
/-- The place of a name in a rising list. -/
def plc (L : List FE) (s : Nm) : Nat := (L.filter fun g => decide (g.s < s)).length
theorem plc_le (L : List FE) (s : Nm) : plc L s ≤ L.length := List.length_filter_le _ _
theorem srt_lt {L : List FE} (h : Srt L) (s : Nm) : L.filter (fun g => decide (g.s < s)) = L.take (plc L s) := by
  unfold plc
  induction L with
  | nil => rfl
  | cons x L ih =>
    obtain ⟨h1, h2⟩ := List.pairwise_cons.1 h
    by_cases hx : x.s < s
    · rw [List.filter_cons_of_pos (by simpa using hx), List.length_cons, List.take_succ_cons, ih h2]
      simp
    · rw [List.filter_cons_of_neg (by simpa using hx)]
      have : L.filter (fun g => decide (g.s < s)) = [] := by
        rw [List.filter_eq_nil_iff]
        intro g hg
        simp only [decide_eq_true_eq]
        exact fun q => hx (nm_trans (h1 g hg) q)
      rw [this]; rfl
theorem srt_ge {L : List FE} (h : Srt L) (s : Nm) : L.filter (fun g => !decide (g.s < s)) = L.drop (plc L s) := by
  unfold plc
  induction L with
  | nil => rfl
  | cons x L ih =>
    obtain ⟨h1, h2⟩ := List.pairwise_cons.1 h
    by_cases hx : x.s < s
    · rw [List.filter_cons_of_neg (by simpa using hx), List.filter_cons_of_pos (by simpa using hx), List.length_cons, List.drop_succ_cons, ih h2]
    · rw [List.filter_cons_of_pos (by simpa using hx), List.filter_cons_of_neg (by simpa using hx)]
      have h0 : L.filter (fun g => decide (g.s < s)) = [] := by
        rw [List.filter_eq_nil_iff]
        intro g hg
        simp only [decide_eq_true_eq]
        exact fun q => hx (nm_trans (h1 g hg) q)
      have h3 : L.filter (fun g => !decide (g.s < s)) = L := by
        rw [List.filter_eq_self]
        intro g hg
        simp only [Bool.not_eq_true', decide_eq_false_iff_not]
        exact fun q => hx (nm_trans (h1 g hg) q)
      rw [h0, h3]; rfl
/-- Ahead of the place all names are less; at it and behind it none is. -/
theorem plc_lt {L : List FE} (h : Srt L) {s : Nm} {i : Nat} {g : FE} (hi : L[i]? = some g) : i < plc L s ↔ g.s < s := by
  constructor
  · intro q
    have : g ∈ L.take (plc L s) := List.mem_of_getElem? (i := i) (by rw [List.getElem?_take, if_pos q]; exact hi)
    rw [← srt_lt h] at this
    exact of_decide_eq_true (List.mem_filter.1 this).2
  · intro q
    apply Nat.lt_of_not_le
    intro hq
    have : g ∈ L.drop (plc L s) := List.mem_of_getElem? (i := i - plc L s) (by rw [List.getElem?_drop, show plc L s + (i - plc L s) = i by omega]; exact hi)
    rw [← srt_ge h] at this
    have := (List.mem_filter.1 this).2
    simp only [Bool.not_eq_true', decide_eq_false_iff_not] at this
    exact this q
theorem fd_plc {L : List FE} (h : Srt L) (s : Nm) : fd L s = (L[plc L s]?).filter fun g => decide (g.s = s) := by
  cases e : fd L s with
  | some g =>
    obtain ⟨hg, rfl⟩ := fd_some e
    obtain ⟨i, hi⟩ := List.mem_iff_getElem?.1 hg
    have h1 : ¬ i < plc L g.s := fun q => nm_irr _ ((plc_lt h hi).1 q)
    have h2 : ¬ plc L g.s < i := by
      intro q
      have hl := (List.getElem?_eq_some_iff.1 hi).1
      have hx : L[plc L g.s]? = some L[plc L g.s] := List.getElem?_eq_getElem (by omega)
      have h3 : ¬ plc L g.s < plc L g.s := Nat.lt_irrefl _
      rw [plc_lt h hx] at h3
      have h4 := List.pairwise_iff_getElem.1 h _ _ (by omega) hl q
      rw [(List.getElem?_eq_some_iff.1 hi).2] at h4
      exact h3 h4
    rw [show plc L g.s = i by omega, hi]
    simp [Option.filter]
  | none =>
    cases hx : L[plc L s]? with
    | none => rfl
    | some g =>
      have := fd_none e g (List.mem_of_getElem? hx)
      simp [Option.filter, this]
theorem fd_at {L : List FE} (h : Srt L) {s : Nm} {g : FE} (e : fd L s = some g) : L[plc L s]? = some g := by
  rw [fd_plc h] at e
  cases hx : L[plc L s]? with
  | none => rw [hx] at e; cases e
  | some x =>
    rw [hx] at e
    simp [Option.filter] at e
    rw [e.2]
theorem putF_set {L : List FE} (h : Srt L) {f g : FE} (e : fd L f.s = some g) : putF L f = L.set (plc L f.s) f := by
  have hat := fd_at h e
  have hl := (List.getElem?_eq_some_iff.1 hat).1
  obtain ⟨_, hs⟩ := fd_some e
  unfold putF
  rw [srt_lt h, List.set_eq_take_append_cons_drop, if_pos hl]
  congr 2
  have h1 : L.filter (fun g => decide (f.s < g.s)) = (L.filter (fun g => !decide (g.s < f.s))).filter (fun g => decide (f.s < g.s)) := by
    rw [List.filter_filter]
    refine List.filter_congr fun x _ => ?_
    by_cases q : f.s < x.s
    · have := nm_asym q
      simp [q, this]
    · simp [q]
  rw [h1, srt_ge h, List.drop_eq_getElem_cons hl, (List.getElem?_eq_some_iff.1 hat).2, List.filter_cons_of_neg (by rw [hs]; simp), List.filter_eq_self]
  intro x hx
  have hp := (h.sublist (List.drop_sublist (plc L f.s) L))
  rw [List.drop_eq_getElem_cons hl, (List.getElem?_eq_some_iff.1 hat).2] at hp
  have := (List.pairwise_cons.1 hp).1 x hx
  rw [hs] at this
  simpa using this
theorem putF_ins {L : List FE} (h : Srt L) {f : FE} (e : fd L f.s = none) : putF L f = L.take (plc L f.s) ++ f :: L.drop (plc L f.s) := by
  unfold putF
  rw [srt_lt h, ← srt_ge h]
  congr 2
  refine List.filter_congr fun x hx => ?_
  have := fd_none e x hx
  rcases nm_tri x.s f.s with q | q | q
  · have := nm_asym q
    simp [q, this]
  · exact absurd q this
  · have := nm_asym q
    simp [q, this]
theorem delF_at {L : List FE} (h : Srt L) {s : Nm} {g : FE} (e : fd L s = some g) : delF L s = L.take (plc L s) ++ L.drop (plc L s + 1) := by
  have hat := fd_at h e
  have hl := (List.getElem?_eq_some_iff.1 hat).1
  obtain ⟨_, hs⟩ := fd_some e
  refine srt_one (srt_delF h s) ?_ fun x => ?_
  · rw [← List.eraseIdx_eq_take_drop_succ]
    exact h.sublist (List.eraseIdx_sublist _ _)
  · have := (perm_erase h.dis h (List.Perm.refl L) hat).mem_iff (a := x)
    rw [hs] at this
    rw [← List.eraseIdx_eq_take_drop_succ]
    exact this.symm
end Go.Proofs.YtcmbeolicopicaaGreat

