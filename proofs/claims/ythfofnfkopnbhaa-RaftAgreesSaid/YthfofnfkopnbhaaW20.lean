/- raft, the walk: Letter. -/
import Derived.Test.YthfofnfkopnbhaaL6
import Derived.Test.YthfofnfkopnbhaaZ12
namespace Go.Proofs.Ythfofnfkopnbhaa
open Go.RowKit Go.Maps Go.ChangeMaps
set_option linter.unusedVariables false
set_option linter.unusedSimpArgs false
set_option linter.unusedSectionVars false
set_option maxRecDepth 100000

/-- It is a letter for this peer. -/
def ForMe (n id : Int) (l : Lt En) : Prop := 1 ≤ l.kind ∧ l.kind ≤ 4 ∧ l.dst = id ∧ l.src ≠ id ∧ 1 ≤ l.src ∧ l.src ≤ n
section
variable {w w' : World} {P : Nat} {n id : Int} {m : Pm} {R : Nat → Prop} {c c' : Cs En}
/-- What is done at a letter for this peer, its term known. -/
def afterP (n id : Int) (l : Lt En) (c : Cs En) : Cs En :=
  if l.term = c.p.T then
    if l.kind = 1 then askedP En.term id l c else if l.kind = 2 then votedP En.term noopE n id l c else if l.kind = 3 then fedP En.term id l c else ateP En.term n id l c
  else if l.kind = 1 then sendP id c l.src (lt0 2)
  else if l.kind = 3 then sendP id c l.src (lt0 4)
  else c
def riseP (t : Int) (c : Cs En) : Cs En := { c with p := { c.p with T := t, V := 0, role := 1, leader := 0 } }
theorem letter_up {l : Lt En} (h : ForMe n id l) (ht : c.p.T < l.term) : letterP En.term noopE n id true l c = afterP n id l (riseP l.term c) := by
  unfold letterP
  rw [if_pos ⟨rfl, h⟩]
  show afterP n id l (if c.p.T < l.term then riseP l.term c else c) = _
  rw [if_pos ht]
theorem letter_at {l : Lt En} (h : ForMe n id l) (ht : ¬ c.p.T < l.term) : letterP En.term noopE n id true l c = afterP n id l c := by
  unfold letterP
  rw [if_pos ⟨rfl, h⟩]
  show afterP n id l (if c.p.T < l.term then riseP l.term c else c) = _
  rw [if_neg ht]
theorem PeA.rise (h : PeA w P n id m R c) (t : Int) : PeA ((((w.setCell ⟨P, 0, none⟩ (.int .i64 t)).setCell ⟨P, 1, none⟩ (.int .i64 0)).setCell ⟨P, 8, none⟩ (.int .i64 1)).setCell ⟨P, 9, none⟩ (.int .i64 0)) P n id m R (riseP t c) := by
  have h1 : PeA (w.setCell ⟨P, 0, none⟩ (.int .i64 t)) P n id m R { c with p := { c.p with T := t } } := h.set 0 _ rfl (h.r.re rfl rfl rfl rfl rfl h.r.vn h.r.keys)
  have h2 : PeA _ P n id m R { c with p := { c.p with T := t, V := 0 } } := h1.set 1 (.int .i64 0) rfl (h1.r.re rfl rfl rfl rfl rfl h1.r.vn h1.r.keys)
  have h3 : PeA _ P n id m R { c with p := { c.p with T := t, V := 0, role := 1 } } := h2.set 8 (.int .i64 1) rfl (h2.r.re rfl rfl rfl rfl rfl (fun e => absurd (show (1 : Int) = 2 from e) (by decide)) (fun e => absurd (show (1 : Int) = 3 from e) (by decide)))
  exact h3.set 9 (.int .i64 0) rfl (h3.r.re rfl rfl rfl rfl rfl h3.r.vn h3.r.keys)
theorem rise_ag (w : World) (P : Nat) (v0 v1 v2 v3 : Value) : Ag (fun b => b ≠ P) w ((((w.setCell ⟨P, 0, none⟩ v0).setCell ⟨P, 1, none⟩ v1).setCell ⟨P, 8, none⟩ v2).setCell ⟨P, 9, none⟩ v3) :=
  ((((Ag.refl _ w).setCell (p := ⟨P, 0, none⟩) (fun _ hK => hK rfl) _).setCell (p := ⟨P, 1, none⟩) (fun _ hK => hK rfl) _).setCell (p := ⟨P, 8, none⟩) (fun _ hK => hK rfl) _).setCell (p := ⟨P, 9, none⟩) (fun _ hK => hK rfl) _
theorem Ok.rise (h : Ok n id c) {t : Int} (h0 : 0 ≤ t) (h1 : t ≤ 1099511627776) : Ok n id (riseP t c) :=
  ⟨h.i1, h.i2, h.n7, h.len, h.dat, h0, h1, h.w0, h.w1, fun e => absurd (show (1 : Int) = 3 from e) (by decide), h.vt⟩
theorem right_term {l : Lt En} {ver : Int} (h : RightOk l ver) (h1 : 1 ≤ l.kind) (h4 : l.kind ≤ 4) : 0 ≤ l.term ∧ l.term ≤ 1099511627776 := by
  have hk := h.2.2.2
  unfold KindOk at hk
  split at hk
  · exact hk.2.2.2.2.1
  split at hk
  · exact hk.2.2.2.2.2
  split at hk
  · exact hk.2.2.2.1
  split at hk
  · exact hk.2.2.2.2.1
  · omega
theorem right_puts {l : Lt En} {ver : Int} (h : RightOk l ver) (h3 : l.kind = 3) : PutsOk l ver := by
  have hk := h.2.2.2
  unfold KindOk at hk
  rw [if_neg (by omega), if_neg (by omega), if_pos h3] at hk
  exact hk
/-- What a letter's guard reads. -/
abbrev SL (l : Lt En) (ver : Int) (A : Option Addr) (d : Nat) (n id : Int) (P lb pb : Nat) (w : World) : Prop :=
  w.cell? ⟨lb, 0, none⟩ = some (.int .u8 l.kind) ∧ w.cell? ⟨lb, 1, none⟩ = some (.int .i64 l.src) ∧ w.cell? ⟨lb, 2, none⟩ = some (.int .i64 l.dst) ∧ w.cell? ⟨lb, 3, none⟩ = some (.int .i64 l.term) ∧ w.cell? ⟨lb, 4, none⟩ = some (.int .i64 l.idx) ∧ w.cell? ⟨lb, 5, none⟩ = some (.int .i64 l.was) ∧ w.cell? ⟨lb, 6, none⟩ = some (.bool l.ok) ∧ w.cell? ⟨lb, 7, none⟩ = some (.int .i64 l.com) ∧ w.cell? ⟨lb, 8, none⟩ = some (.int .i64 ver) ∧ w.cell? ⟨lb, 9, none⟩ = some (.slice A l.ents.length d) ∧
  w.cell? ⟨pb, 0, none⟩ = some (.pointer (some ⟨P, 0, none⟩)) ∧ w.cell? ⟨P, 5, none⟩ = some (.int .i64 id) ∧ w.cell? ⟨P, 6, none⟩ = some (.int .i64 n)
theorem letter_no {b : Bool} {l : Lt En} (h : ¬ (b = true ∧ ForMe n id l)) : letterP En.term noopE n id b l c = c := by
  unfold letterP
  exact if_neg h
end
end Go.Proofs.Ythfofnfkopnbhaa

