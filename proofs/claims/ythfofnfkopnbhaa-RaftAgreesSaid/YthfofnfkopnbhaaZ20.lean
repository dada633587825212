/- raft, the plain law: a letter comes, whole. raft, the plain law: terms go up; From tells where the log is other. raft, the plain law: the world of the law: peers, letters on their way, who led in which term, what is sure. raft, the plain law: how long logs are, how great terms and indexes. -/
import Derived.Test.YthfofnfkopnbhaaZ19
namespace Go.Proofs.Ythfofnfkopnbhaa
set_option linter.unusedVariables false
set_option linter.unusedSimpArgs false
set_option linter.unusedSectionVars false

section
variable {E : Type} {tm : E → Int} {n q : Int} {ins : List (Lt E)}
theorem k12 : ¬ (2 : Int) = 1 := by decide
/-- A letter that claims nothing. -/
theorem st_plain {c : Cs E} (hq : In n q) {to : Int} (ht : In n to) {l : Lt E} (hk : l.kind = 2 ∨ l.kind = 4) (ho : l.ok = false) : St tm n q ins c (sendP q c to l) := st_send fun g s hw => by
  refine ⟨hq, ht, fun e => ?_, fun _ e => ?_, fun e => ?_, fun _ e => ?_⟩
  · have e : l.kind = 1 := e; omega
  · have e : l.ok = true := e; rw [ho] at e; cases e
  · have e : l.kind = 3 := e; omega
  · have e : l.ok = true := e; rw [ho] at e; cases e
theorem newer_up {c : Cs E} {l : Lt E} {cl : List E} (h1 : l.idx = (cl.length : Int)) (h2 : l.was = lastT tm cl) (h : (decide (lastT tm c.p.log < l.was) || (decide (l.was = lastT tm c.p.log) && decide ((c.p.log.length : Int) ≤ l.idx))) = true) : UpTo tm cl c.p.log := by
  simp only [Bool.or_eq_true, Bool.and_eq_true, decide_eq_true_eq] at h
  rcases h with h | ⟨h, h'⟩
  · exact .inl (by omega)
  · exact .inr ⟨by omega, by omega⟩
theorem st_asked {c : Cs E} (hq : In n q) {l : Lt E} (hl : l ∈ ins) (hs : In n l.src) (hsq : l.src ≠ q) (hk : l.kind = 1) (hT : l.term = c.p.T) : St tm n q ins c (askedP tm q l c) := by
  unfold askedP
  simp only
  split
  · next hy =>
    rw [hy]
    simp only [Bool.and_eq_true, Bool.or_eq_true, decide_eq_true_eq] at hy
    obtain ⟨⟨hr, hv⟩, hn⟩ := hy
    have hst : St tm n q ins c { c with p := { c.p with V := l.src, waited := 0 } } := by
      by_cases hv0 : c.p.V = 0
      · intro g s hw
        obtain ⟨a1, a2, a3⟩ := (hw.inn l hl).ask hk
        have e0 := hw.at_
        have eV : (s q).V = 0 := by rw [e0]; exact hv0
        have hT1 : 1 ≤ (s q).T := by
          rw [e0]
          show 1 ≤ c.p.T
          rw [← hT]
          exact (hw.inv.vin l.src l.term hs (by rw [a1]; exact in_ne hs)).2
        have hle := vote_le hw.inv hq (c := l.src) eV c.p.log
        have h2 := hw.inv.vote hq (c := l.src) eV (by rw [e0]; exact hr) hs hT1 ({ c.p with V := l.src, waited := 0 } : Pr E).sv (by rw [e0]; rfl) rfl (by rw [e0]; rfl) (by rw [e0]; rfl)
          (fun _ => ⟨hr, by show g.VT l.src c.p.T = l.src; rw [← hT]; exact a1, by
            show UpTo tm (g.CL c.p.T l.src) c.p.log
            rw [← hT]
            refine newer_up a2 a3 ?_
            simp only [Bool.or_eq_true, Bool.and_eq_true, decide_eq_true_eq]
            exact hn⟩) (fun e => absurd e hsq)
        rw [show (s q).T = c.p.T by rw [e0]; rfl] at hle
        exact ⟨_, upd s q _, ⟨h2, upd_same _ _ _, hw.cpos, fun x hx => (hw.lets x hx).le hle, fun x hx => (hw.inn x hx).le hle⟩, hle, fun p hp => upd_ne _ _ hp⟩
      · have hv1 : c.p.V = l.src := by rcases hv with hv | hv; exact absurd hv hv0; exact hv
        refine st_idle hq ?_ rfl rfl
        show ({ c.p with V := l.src, waited := 0 } : Pr E).sv = c.p.sv
        rw [← hv1]
        rfl
    refine hst.trans (st_send fun g s hw => ⟨hq, hs, fun e => absurd (show (2 : Int) = 1 from e) (by decide), fun _ _ => ?_, fun e => absurd (show (2 : Int) = 3 from e) (by decide), fun e => absurd (show (2 : Int) = 4 from e) (by decide)⟩)
    have := hw.inv.vtc q hq
    rw [hw.at_] at this
    exact this
  · next hy =>
    rw [Bool.not_eq_true] at hy
    rw [hy]
    exact st_plain hq hs (.inl rfl) rfl
variable {noop : Int → E}
theorem st_voted (hno : ∀ t, tm (noop t) = t) {c : Cs E} (hq : In n q) {l : Lt E} (hl : l ∈ ins) (hs : In n l.src) (hk : l.kind = 2) (hd : l.dst = q) (hT : l.term = c.p.T) : St tm n q ins c (votedP tm noop n q l c) := by
  unfold votedP
  split
  · next h =>
    obtain ⟨hr, ho⟩ := h
    refine St.trans (b := { c with p := { c.p with votes := addV l.src c.p.votes } }) ?_ (st_win (c := { c with p := { c.p with votes := addV l.src c.p.votes } }) hno hq hr).1
    refine st_serve hq rfl rfl rfl (fun g s hw => hw.cpos) (fun g s hw _ => ?_) (fun g s _ e => absurd (hr.symm.trans e) (by decide)) (fun g s hw => hw.cc hq)
    have hc := hw.inv.cand q hq (by rw [hw.at_]; exact hr)
    rw [hw.at_] at hc
    obtain ⟨c1, c2, c3, c4, c5⟩ := hc
    have hv := (hw.inn l hl).vote hk ho
    rw [hd, hT] at hv
    have c4 : c.p.votes.Nodup := c4
    refine ⟨c1, c2, c3, ?_, fun p hp => ?_⟩
    · show (addV l.src c.p.votes).Nodup
      unfold addV
      split
      · exact c4
      · next hm => exact List.nodup_append.2 ⟨c4, by simp, fun a ha b hb e => hm (by simp at hb; rw [← hb, ← e]; exact ha)⟩
    · have hp : p ∈ addV l.src c.p.votes := hp
      unfold addV at hp
      split at hp
      · exact c5 p hp
      · rw [List.mem_append, List.mem_singleton] at hp
        rcases hp with hp | rfl
        · exact c5 p hp
        · exact ⟨hs, hv⟩
  · exact St.refl _
theorem st_fed {c : Cs E} (hq : In n q) {l : Lt E} (hl : l ∈ ins) (hs : In n l.src) (hk : l.kind = 3) (hT : l.term = c.p.T) : St tm n q ins c (fedP tm q l c) := by
  unfold fedP
  split
  · exact St.refl _
  · next hr =>
    simp only
    split
    · next hf =>
      refine St.trans (b := { c with p := { c.p with role := 1, leader := l.src, waited := 0 } }) ?_ (st_plain hq hs (.inr rfl) rfl)
      exact st_serve hq rfl rfl rfl (fun g s hw => hw.cpos) (fun g s _ e => absurd (show (1 : Int) = 2 from e) (by decide)) (fun g s _ e => absurd (show (1 : Int) = 3 from e) (by decide)) (fun g s hw => hw.cc hq)
    · next last ch log' hf =>
      intro g s hw
      obtain ⟨a1, a2, a3, a4, a5, a6, a7⟩ := (hw.inn l hl).app hk
      have e0 := hw.at_
      have eT : (s q).T = c.p.T := by rw [e0]; rfl
      have hel : g.el (s q).T ≠ 0 := by rw [eT, ← hT, a1]; exact in_ne hs
      have hcl := hw.inv.clog q hq
      rw [show (s q).log = c.p.log by rw [e0]; rfl] at hcl
      obtain ⟨f1, _, f3⟩ := fit_is hcl (hw.inv.cLL l.term) a2 a3 a4 a5 hf
      have hm : l.idx.toNat + l.ents.length = last.toNat := by omega
      rw [hm] at f3 a3
      rw [hT] at f3 a3 a7
      obtain ⟨p1, p2⟩ := changed_p { c with p := { c.p with role := 1, leader := l.src, waited := 0, log := log' } } ch
      have hle : Le n g (ack g q (s q).T last.toNat) := ack_le g q (s q).T last.toNat
      have h2 := hw.inv.fit hq hel (by rw [e0]; exact hr) last.toNat (by rw [eT]; exact a3) ({ c.p with role := 1, leader := l.src, waited := 0, log := log' } : Pr E).sv (by rw [e0]; rfl) (by rw [e0]; rfl) rfl (by rw [e0]; rfl)
        (by rw [eT, show (s q).log = c.p.log by rw [e0]; rfl]; exact f3)
      have hm2 : log'.take last.toNat = (g.LL c.p.T).take last.toNat := by
        rcases f3 with ⟨x1, x2⟩ | ⟨x1, x2⟩
        · rw [x1]; exact x2
        · rw [x1, List.take_take, Nat.min_self]
      have w1 : WS tm n q ins (ack g q (s q).T last.toNat) (upd s q ({ c.p with role := 1, leader := l.src, waited := 0, log := log' } : Pr E).sv) { c with p := { c.p with role := 1, leader := l.src, waited := 0, log := log' } } :=
        ⟨h2, upd_same _ _ _, hw.cpos, fun x hx => (hw.lets x hx).le hle, fun x hx => (hw.inn x hx).le hle⟩
      have hA : last.toNat ≤ (ack g q (s q).T last.toNat).A q c.p.T := by
        rw [← eT]
        show _ ≤ (if q = q ∧ (s q).T = (s q).T then _ else _)
        rw [if_pos ⟨rfl, rfl⟩]
        exact Nat.le_max_right ..
      have a7' := a7.le hle
      have hLL : (ack g q (s q).T last.toNat).LL = g.LL := rfl
      have hs1 : ∀ p, p ≠ q → upd s q ({ c.p with role := 1, leader := l.src, waited := 0, log := log' } : Pr E).sv p = s p := fun p hp => upd_ne _ _ hp
      generalize ack g q (s q).T last.toNat = g1 at *
      generalize upd s q ({ c.p with role := 1, leader := l.src, waited := 0, log := log' } : Pr E).sv = s1 at *
      -- what is commit
      have hC : CC tm n g1 log' c.p.T (max c.p.C (min l.com last)).toNat := by
        have hold := w1.cc hq
        by_cases hmx : c.p.C < min l.com last
        · have h3 := a7'.down (c' := (min l.com last).toNat) (by omega)
          refine (h3.other (l' := log') ?_ : CC tm n g1 log' c.p.T (min l.com last).toNat) |> fun h => by
            rw [show max c.p.C (min l.com last) = min l.com last by omega]
            exact h
          exact take_le hm2 (by omega)
        · rw [show max c.p.C (min l.com last) = c.p.C by omega]
          exact hold
      have hcl2 : (changedP { c with p := { c.p with role := 1, leader := l.src, waited := 0, log := log' } } ch).p.C = c.p.C := by rw [p1]
      have h4 : WS tm n q ins g1 (upd s1 q ({ c.p with role := 1, leader := l.src, waited := 0, log := log', C := max c.p.C (min l.com last) } : Pr E).sv) { c with p := { c.p with role := 1, leader := l.src, waited := 0, log := log', C := max c.p.C (min l.com last) } } := by
        have e1 := w1.at_
        refine ⟨w1.inv.serve hq _ (by rw [e1]; rfl) (by rw [e1]; rfl) (by rw [e1]; rfl) (fun e => absurd (show (1 : Int) = 2 from e) (by decide)) (fun e => absurd (show (1 : Int) = 3 from e) (by decide)) hC, upd_same _ _ _, ?_, w1.lets, w1.inn⟩
        show 0 ≤ max c.p.C (min l.com last)
        have := hw.cpos
        omega
      refine ⟨g1, upd s1 q ({ c.p with role := 1, leader := l.src, waited := 0, log := log', C := max c.p.C (min l.com last) } : Pr E).sv, ⟨h4.inv, ?_, ?_, fun x hx => ?_, h4.inn⟩, hle, fun p hp => (upd_ne _ _ hp).trans (hs1 p hp)⟩
      · rw [upd_same]
        unfold sendP
        simp only [p1]
      · unfold sendP
        simp only [p1]
        exact h4.cpos
      · unfold sendP at hx
        simp only [p1, p2, List.mem_append, List.mem_singleton] at hx
        rcases hx with hx | rfl
        · exact h4.lets x hx
        · refine ⟨hq, hs, fun e => absurd (show (4 : Int) = 1 from e) (by decide), fun e => absurd (show (4 : Int) = 2 from e) (by decide), fun e => absurd (show (4 : Int) = 3 from e) (by decide), fun _ _ => ⟨?_, ?_⟩⟩
          · show 0 ≤ last; omega
          · show last ≤ (g1.A q c.p.T : Int); omega
theorem st_ate {c : Cs E} (hq : In n q) {l : Lt E} (hl : l ∈ ins) (hs : In n l.src) (hsq : l.src ≠ q) (hk : l.kind = 4) (hT : l.term = c.p.T) : St tm n q ins c (ateP tm n q l c) := by
  unfold ateP
  split
  · exact St.refl _
  · next hr =>
    have hr : c.p.role = 3 := by omega
    split
    · next h =>
      obtain ⟨ho, hm, hlen⟩ := h
      have h1 : St tm n q ins c { c with p := { c.p with mat := setF c.p.mat l.src l.idx, next := setF c.p.next l.src (max (c.p.next l.src) (l.idx + 1)) } } := by
        refine st_serve hq rfl rfl rfl (fun g s hw => hw.cpos) (fun g s _ e => absurd (hr.symm.trans e) (by decide)) (fun g s hw _ => ?_) (fun g s hw => hw.cc hq)
        obtain ⟨l1, l2, l3, l4, l5⟩ := hw.ld hq hr
        obtain ⟨b1, b2⟩ := (hw.inn l hl).fed hk ho
        rw [hT] at b2
        refine ⟨l1, l2, l3, fun p hp hpq => ?_, fun p hp hpq => ?_⟩
        · show 0 ≤ setF c.p.mat l.src l.idx p ∧ setF c.p.mat l.src l.idx p ≤ (g.A p c.p.T : Int)
          unfold setF
          by_cases e : p = l.src
          · rw [if_pos e, e]; exact ⟨b1, b2⟩
          · rw [if_neg e]; exact l4 p hp hpq
        · show 1 ≤ setF c.p.next l.src _ p ∧ setF c.p.next l.src _ p ≤ (c.p.log.length : Int) + 1
          unfold setF
          have := l5 p hp hpq
          by_cases e : p = l.src
          · rw [if_pos e]
            rw [e] at this
            omega
          · rw [if_neg e]; exact this
      obtain ⟨k1, k2, _⟩ := st_settle (ins := ins) (tm := tm) (c := { c with p := { c.p with mat := setF c.p.mat l.src l.idx, next := setF c.p.next l.src (max (c.p.next l.src) (l.idx + 1)) } }) hq hr
      simp only
      split
      · exact (h1.trans k1).trans (st_feed hq k2 hs hsq).1
      · exact h1.trans k1
    · split
      · next h =>
        obtain ⟨ho, hm, hlen⟩ := h
        have h1 : St tm n q ins c { c with p := { c.p with next := setF c.p.next l.src (l.idx + 1) } } := by
          refine st_serve hq rfl rfl rfl (fun g s hw => hw.cpos) (fun g s _ e => absurd (hr.symm.trans e) (by decide)) (fun g s hw _ => ?_) (fun g s hw => hw.cc hq)
          obtain ⟨l1, l2, l3, l4, l5⟩ := hw.ld hq hr
          refine ⟨l1, l2, l3, l4, fun p hp hpq => ?_⟩
          show 1 ≤ setF c.p.next l.src _ p ∧ setF c.p.next l.src _ p ≤ (c.p.log.length : Int) + 1
          unfold setF
          have h5 := l5 p hp hpq
          have h4 := l4 p hp hpq
          by_cases e : p = l.src
          · rw [if_pos e]
            rw [e] at h5 h4
            omega
          · rw [if_neg e]; exact h5
        exact h1.trans (st_feed (c := { c with p := { c.p with next := setF c.p.next l.src (l.idx + 1) } }) hq hr hs hsq).1
      · exact St.refl _
theorem st_letter (hno : ∀ t, tm (noop t) = t) {c : Cs E} (hq : In n q) {l : Lt E} (hl : l ∈ ins) (right : Bool) : St tm n q ins c (letterP tm noop n q right l c) := by
  unfold letterP
  split
  · next h =>
    obtain ⟨_, k1, k4, hd, hsq, s1, s2⟩ := h
    have hs : In n l.src := ⟨s1, s2⟩
    simp only
    have hb : St tm n q ins c (if c.p.T < l.term then { c with p := { c.p with T := l.term, V := 0, role := 1, leader := 0 } } else c) := by
      split
      · next hlt =>
        intro g s hw
        have e0 := hw.at_
        have h2 := hw.inv.bump hq ({ c.p with T := l.term, V := 0, role := 1, leader := 0 } : Pr E).sv (by rw [e0]; exact hlt) rfl (by rw [e0] <;> rfl) rfl (by rw [e0] <;> rfl)
        exact ⟨g, upd s q _, ⟨h2, upd_same _ _ _, hw.cpos, hw.lets, hw.inn⟩, Le.refl _, fun p hp => upd_ne _ _ hp⟩
      · exact St.refl _
    generalize (if c.p.T < l.term then { c with p := { c.p with T := l.term, V := 0, role := 1, leader := 0 } } else c) = c1 at *
    refine hb.trans ?_
    split
    · next hT =>
      split
      · next hk => exact st_asked hq hl hs hsq hk hT
      · split
        · next hk => exact st_voted hno hq hl hs hk hd hT
        · split
          · next hk => exact st_fed hq hl hs hk hT
          · exact st_ate hq hl hs hsq (by omega) hT
    · split
      · exact st_plain hq hs (.inl rfl) rfl
      · split
        · exact st_plain hq hs (.inr rfl) rfl
        · exact St.refl _
  · exact St.refl _
end
end Go.Proofs.Ythfofnfkopnbhaa
namespace Go.Proofs.Ythfofnfkopnbhaa
set_option linter.unusedVariables false
set_option linter.unusedSimpArgs false
set_option linter.unusedSectionVars false

section
variable {E : Type} {tm : E → Int} {n q : Int} {noop : Int → E}
/-- From tells where the log is other: 0: it is as long as it was. -/
def FI (L : Nat) (c : Cs E) : Prop := 0 ≤ c.frm ∧ (c.frm = 0 → c.p.log.length = L)
/-- What is not turned by steps that only send. -/
structure Qt (c c' : Cs E) : Prop where
  T : c'.p.T = c.p.T
  log : c'.p.log = c.p.log
  frm : c'.frm = c.frm
theorem Qt.refl (c : Cs E) : Qt c c := ⟨rfl, rfl, rfl⟩
theorem Qt.trans {a b c : Cs E} (h : Qt a b) (k : Qt b c) : Qt a c := ⟨k.T.trans h.T, k.log.trans h.log, k.frm.trans h.frm⟩
theorem Qt.fi {c c' : Cs E} (h : Qt c c') {L : Nat} (hf : FI L c) : FI L c' := by
  unfold FI
  rw [h.frm, h.log]
  exact hf
theorem qt_send (c : Cs E) (to : Int) (l : Lt E) : Qt c (sendP q c to l) := ⟨rfl, rfl, rfl⟩
theorem qt_feeds : ∀ (l : List Int) (c : Cs E), Qt c (l.foldl (feedP tm q) c)
  | [], c => Qt.refl c
  | t :: l, c => Qt.trans (⟨rfl, rfl, rfl⟩ : Qt c (feedP tm q c t)) (qt_feeds l (feedP tm q c t))
theorem qt_asks (f : Lt E) : ∀ (l : List Int) (c : Cs E), Qt c (l.foldl (fun c s => sendP q c s f) c)
  | [], c => Qt.refl c
  | t :: l, c => Qt.trans (qt_send c t f) (qt_asks f l _)
theorem qt_settle (c : Cs E) : Qt c (settleP tm n q c) := by
  unfold settleP
  simp only
  split <;> exact ⟨rfl, rfl, rfl⟩
theorem put_T (c : Cs E) (e : E) : (putP c e).p.T = c.p.T := by unfold putP; rw [(changed_p _ _).1]
theorem put_fi {L : Nat} {c : Cs E} (h : 0 ≤ c.frm) (e : E) : FI L (putP c e) := by
  unfold putP changedP
  split
  · exact ⟨by show (0 : Int) ≤ (c.p.log.length : Int) + 1; omega, fun e => by have e : (c.p.log.length : Int) + 1 = 0 := e; omega⟩
  · next hn =>
    have hn : ¬ (0 < (c.p.log.length : Int) + 1 ∧ (c.frm = 0 ∨ (c.p.log.length : Int) + 1 < c.frm)) := hn
    refine ⟨h, fun e => ?_⟩
    have e : c.frm = 0 := e
    exact absurd ⟨by omega, .inl e⟩ hn
theorem win_T (c : Cs E) : (winP tm noop n q c).p.T = c.p.T := by
  unfold winP
  split
  · simp only
    rw [(qt_settle _).T, (qt_feeds _ _).T, put_T]
  · rfl
theorem win_fi {L : Nat} {c : Cs E} (h : FI L c) : FI L (winP tm noop n q c) := by
  unfold winP
  split
  · simp only
    refine (qt_settle _).fi ((qt_feeds _ _).fi (put_fi ?_ _))
    exact h.1
  · exact h
theorem stand_T (c : Cs E) (draw : Int) : (standP tm noop n q draw c).p.T = c.p.T + 1 := by
  unfold standP
  simp only
  rw [win_T, (qt_asks _ _ _).T]
theorem stand_fi {L : Nat} {c : Cs E} (h : FI L c) (draw : Int) : FI L (standP tm noop n q draw c) := by
  unfold standP
  simp only
  exact win_fi ((qt_asks _ _ _).fi h)
theorem tick_T (c : Cs E) (draw : Int) : c.p.T ≤ (tickP tm noop n q draw c).p.T ∧ (tickP tm noop n q draw c).p.T ≤ c.p.T + 1 := by
  unfold tickP
  split
  · rw [(qt_feeds _ _).T]; omega
  · simp only
    split
    · rw [stand_T]
      show c.p.T ≤ c.p.T + 1 ∧ c.p.T + 1 ≤ c.p.T + 1
      omega
    · show c.p.T ≤ c.p.T ∧ c.p.T ≤ c.p.T + 1
      omega
theorem tick_fi {L : Nat} {c : Cs E} (h : FI L c) (draw : Int) : FI L (tickP tm noop n q draw c) := by
  unfold tickP
  split
  · exact (qt_feeds _ _).fi h
  · simp only
    split
    · exact stand_fi h draw
    · exact h
theorem fit_ch {log : List E} {i was : Int} {es : List E} {last ch : Int} {log' : List E} (hf : fitP tm log i was es = some (last, ch, log')) : (log' = log ∧ ch = 0) ∨ 0 < ch := by
  unfold fitP at hf
  split at hf
  · injection hf with hf
    split at hf
    · injection hf with _ hf
      injection hf with h1 h2
      exact .inl ⟨h2.symm, h1.symm⟩
    · injection hf with _ hf
      injection hf with h1 h2
      exact .inr (by omega)
  · cases hf
theorem changed_fi {L : Nat} {c : Cs E} {log' : List E} {ch : Int} (h : FI L c) (hc : (log' = c.p.log ∧ ch = 0) ∨ 0 < ch) {p' : Pr E} (hp : p'.log = log') : FI L (changedP { c with p := p' } ch) := by
  unfold changedP
  split
  · next hh =>
    exact ⟨by show (0 : Int) ≤ ch; omega, fun e => by have e : ch = 0 := e; omega⟩
  · next hh =>
    have hh : ¬ (0 < ch ∧ (c.frm = 0 ∨ ch < c.frm)) := hh
    rcases hc with ⟨h1, h2⟩ | h1
    · refine ⟨h.1, fun e => ?_⟩
      show p'.log.length = L
      rw [hp, h1]
      exact h.2 e
    · refine ⟨h.1, fun e => ?_⟩
      have e : c.frm = 0 := e
      exact absurd ⟨h1, .inl e⟩ hh
theorem letter_T (right : Bool) (l : Lt E) (c : Cs E) : c.p.T ≤ (letterP tm noop n q right l c).p.T ∧ ((letterP tm noop n q right l c).p.T ≤ c.p.T ∨ (letterP tm noop n q right l c).p.T ≤ l.term) := by
  unfold letterP
  split
  · simp only
    have hb : ∃ c1 : Cs E, (if c.p.T < l.term then { c with p := { c.p with T := l.term, V := 0, role := 1, leader := 0 } } else c) = c1 ∧ c.p.T ≤ c1.p.T ∧ (c1.p.T ≤ c.p.T ∨ c1.p.T ≤ l.term) := by
      refine ⟨_, rfl, ?_⟩
      split
      · next hlt => show c.p.T ≤ l.term ∧ _; exact ⟨by omega, .inr (Int.le_refl _)⟩
      · exact ⟨Int.le_refl _, .inl (Int.le_refl _)⟩
    obtain ⟨c1, hc1, h1⟩ := hb
    rw [hc1]
    clear hc1
    have key : ∀ c2 : Cs E, c2.p.T = c1.p.T → c.p.T ≤ c2.p.T ∧ (c2.p.T ≤ c.p.T ∨ c2.p.T ≤ l.term) := fun c2 e => by rw [e]; exact h1
    split
    · split
      · refine key _ ?_
        unfold askedP
        simp only
        split <;> rfl
      · split
        · refine key _ ?_
          unfold votedP
          split
          · rw [win_T]
          · rfl
        · split
          · refine key _ ?_
            unfold fedP
            split
            · rfl
            · simp only
              split
              · rfl
              · unfold sendP
                simp only [(changed_p _ _).1]
          · refine key _ ?_
            unfold ateP
            split
            · rfl
            · split
              · simp only
                split
                · show (settleP tm n q _).p.T = _
                  rw [(qt_settle _).T]
                · rw [(qt_settle _).T]
              · split <;> rfl
    · split
      · exact key _ rfl
      · split <;> exact key _ rfl
  · exact ⟨Int.le_refl _, .inl (Int.le_refl _)⟩
theorem letter_fi {L : Nat} (right : Bool) (l : Lt E) {c : Cs E} (h : FI L c) : FI L (letterP tm noop n q right l c) := by
  unfold letterP
  split
  · simp only
    have hb : FI L (if c.p.T < l.term then { c with p := { c.p with T := l.term, V := 0, role := 1, leader := 0 } } else c) := by
      split
      · exact h
      · exact h
    generalize (if c.p.T < l.term then { c with p := { c.p with T := l.term, V := 0, role := 1, leader := 0 } } else c) = c1 at *
    split
    · split
      · unfold askedP
        simp only
        split
        · exact hb
        · exact hb
      · split
        · unfold votedP
          split
          · exact win_fi hb
          · exact hb
        · split
          · unfold fedP
            split
            · exact hb
            · simp only
              split
              · exact hb
              · next last ch log' hf =>
                have := changed_fi (p' := { c1.p with role := 1, leader := l.src, waited := 0, log := log' }) hb (fit_ch hf) rfl
                exact this
          · unfold ateP
            split
            · exact hb
            · split
              · simp only
                split
                · exact (qt_settle _).fi hb
                · exact (qt_settle _).fi hb
              · split
                · exact hb
                · exact hb
    · split
      · exact hb
      · split
        · exact hb
        · exact hb
  · exact h
end
end Go.Proofs.Ythfofnfkopnbhaa
namespace Go.Proofs.Ythfofnfkopnbhaa
set_option linter.unusedVariables false
set_option linter.unusedSimpArgs false
set_option linter.unusedSectionVars false

structure Wd (E : Type) where
  pr : Int → Pr E
  net : List (Lt E)
  leaders : List Int
  sure : List E
section
variable {E : Type} (tm : E → Int) (n : Int)
structure WdI (g : Gh E) (wd : Wd E) : Prop where
  inv : Inv tm n g fun q => (wd.pr q).sv
  cpos : ∀ q, In n q → 0 ≤ (wd.pr q).C
  net : ∀ l ∈ wd.net, LtOk tm n g l
  lead : ∀ (t : Nat) (v : Int), wd.leaders[t]? = some v → v ≠ 0 → g.el t = v
  sure : ∃ T, CC tm n g wd.sure T wd.sure.length
end
section
variable {E : Type} {tm : E → Int} {n : Int} {g : Gh E} {wd : Wd E}
def padL (l : List Int) (k : Nat) : List Int := l ++ List.replicate (k - l.length) 0
theorem pad_get {l : List Int} {k i : Nat} {v : Int} (h : (padL l k)[i]? = some v) (hv : v ≠ 0) : l[i]? = some v := by
  unfold padL at h
  rw [List.getElem?_append] at h
  split at h
  · exact h
  · rw [List.getElem?_replicate] at h
    split at h
    · injection h with h; exact absurd h.symm hv
    · cases h
theorem pad_len (l : List Int) (k : Nat) : k ≤ (padL l k).length := by unfold padL; simp; omega
/-- What a server tells is kept. -/
def tookP (wd : Wd E) (q : Int) (net : List (Lt E)) (c : Cs E) : Wd E :=
  ⟨fun p => if p = q then c.p else wd.pr p, net ++ c.out, if c.p.role = 3 then (padL wd.leaders (c.p.T.toNat + 1)).set c.p.T.toNat q else padL wd.leaders (c.p.T.toNat + 1), wd.sure ++ (c.p.log.take c.p.C.toNat).drop wd.sure.length⟩
/-- What the law asks of it. -/
structure TookOk (wd : Wd E) (q : Int) (c : Cs E) : Prop where
  vote : c.p.T = (wd.pr q).T → (wd.pr q).V ≠ 0 → c.p.V = (wd.pr q).V
  term : 0 ≤ c.p.T
  lead : c.p.role = 3 → ∀ v, (padL wd.leaders (c.p.T.toNat + 1))[c.p.T.toNat]? = some v → v = 0 ∨ v = q
  com : 0 ≤ c.p.C ∧ c.p.C ≤ (c.p.log.length : Int)
  sure : ∀ i, i < c.p.C.toNat → i < wd.sure.length → wd.sure[i]? = c.p.log[i]?
theorem took_ok (h : WdI tm n g wd) {q : Int} (hq : In n q) {net : List (Lt E)} (hnet : ∀ l ∈ net, l ∈ wd.net) {c : Cs E} (hst : St tm n q wd.net ⟨wd.pr q, 0, []⟩ c) : (∃ g', WdI tm n g' (tookP wd q net c)) ∧ TookOk wd q c := by
  obtain ⟨g', s', w', hle, hoth⟩ := hst g (fun q => (wd.pr q).sv) ⟨h.inv, rfl, h.cpos q hq, fun l hl => (by cases hl), h.net⟩
  have hs' : s' = fun p => (if p = q then c.p else wd.pr p).sv := by
    funext p
    by_cases e : p = q
    · subst e; rw [w'.at_]; simp
    · rw [hoth p e]; simp [e]
  have hcc := w'.cc hq
  have hT0 : 0 ≤ c.p.T := by have := w'.inv.t0 q hq; rw [w'.at_] at this; exact this
  have hsure : ∃ T, CC tm n g' wd.sure T wd.sure.length := by
    obtain ⟨T, hT⟩ := h.sure
    exact ⟨T, hT.le hle⟩
  have hlen : c.p.C.toNat ≤ c.p.log.length := by
    rcases hcc with h0 | ⟨t, k, h1, h2, h3, h4, h5⟩
    · omega
    · exact h4
  obtain ⟨Ts, hS⟩ := hsure
  have hel : c.p.role = 3 → g'.el c.p.T = q := fun hr => (w'.ld hq hr).1
  refine ⟨⟨g', ⟨?_, fun p hp => ?_, fun l hl => ?_, fun t v ht hv => ?_, ?_⟩⟩, ⟨fun hT hv => ?_, hT0, fun hr v hv => ?_, ⟨w'.cpos, by have := w'.cpos; omega⟩, fun i h1 h2 => ?_⟩⟩
  · have := w'.inv
    rw [hs'] at this
    exact this
  · show 0 ≤ (if p = q then c.p else wd.pr p).C
    split
    · exact w'.cpos
    · exact h.cpos p hp
  · have hl : l ∈ net ++ c.out := hl
    rw [List.mem_append] at hl
    rcases hl with hl | hl
    · exact w'.inn l (hnet l hl)
    · exact w'.lets l hl
  · have ht : (if c.p.role = 3 then (padL wd.leaders (c.p.T.toNat + 1)).set c.p.T.toNat q else padL wd.leaders (c.p.T.toNat + 1))[t]? = some v := ht
    have hold : wd.leaders[t]? = some v → g'.el (t : Int) = v := fun h1 => by
      have h2 := h.lead t v h1 hv
      rw [hle.el _ (by rw [h2]; exact hv)]
      exact h2
    split at ht
    · next hr =>
      rw [List.getElem?_set] at ht
      split at ht
      · next e =>
        split at ht
        · injection ht with ht
          rw [← e, show ((c.p.T.toNat : Nat) : Int) = c.p.T by omega, hel hr, ht]
        · cases ht
      · exact hold (pad_get ht hv)
    · exact hold (pad_get ht hv)
  · show ∃ T, CC tm n g' (wd.sure ++ (c.p.log.take c.p.C.toNat).drop wd.sure.length) T (wd.sure ++ (c.p.log.take c.p.C.toNat).drop wd.sure.length).length
    rcases Nat.lt_or_ge wd.sure.length c.p.C.toNat with h1 | h1
    · have h2 := w'.inv.agree hS hcc (Nat.le_of_lt h1)
      rw [List.take_length] at h2
      have h3 : wd.sure ++ (c.p.log.take c.p.C.toNat).drop wd.sure.length = c.p.log.take c.p.C.toNat := by
        conv => lhs; lhs; rw [h2]
        have : c.p.log.take wd.sure.length = (c.p.log.take c.p.C.toNat).take wd.sure.length := by rw [List.take_take, Nat.min_eq_left (by omega)]
        rw [this, List.take_append_drop]
      rw [h3, List.length_take, Nat.min_eq_left hlen]
      exact ⟨_, hcc.other (by rw [List.take_take, Nat.min_self])⟩
    · rw [List.drop_eq_nil_of_le (by rw [List.length_take]; omega), List.append_nil]
      exact ⟨Ts, hS⟩
  · have h1 := h.inv.vtc q hq
    have h2 := w'.inv.vtc q hq
    rw [w'.at_] at h2
    have h1 : g.VT q (wd.pr q).T = (wd.pr q).V := h1
    have h2 : g'.VT q c.p.T = c.p.V := h2
    rw [← h2, hT, hle.vt q _ hq (by rw [h1]; exact hv)]
    exact h1
  · by_cases hv0 : v = 0
    · exact .inl hv0
    · have h1 := h.lead _ v (pad_get hv hv0) hv0
      rw [show ((c.p.T.toNat : Nat) : Int) = c.p.T by omega] at h1
      have h2 := hle.el c.p.T (by rw [h1]; exact hv0)
      rw [hel hr, h1] at h2
      exact .inr h2.symm
  · rcases Nat.lt_or_ge wd.sure.length c.p.C.toNat with h3 | h3
    · have h4 := w'.inv.agree hS hcc (Nat.le_of_lt h3)
      rw [List.take_length] at h4
      conv => lhs; rw [h4]
      rw [List.getElem?_take, if_pos h2]
    · have h4 := w'.inv.agree hcc hS h3
      have a1 : (c.p.log.take c.p.C.toNat)[i]? = c.p.log[i]? := by rw [List.getElem?_take, if_pos h1]
      have a2 : (wd.sure.take c.p.C.toNat)[i]? = wd.sure[i]? := by rw [List.getElem?_take, if_pos h1]
      rw [← a1, h4, a2]
/-- A server starts anew. -/
def startP (p : Pr E) : Pr E := ⟨p.T, p.V, 0, p.log, 1, 0, 0, 10, [], fun _ => 0, fun _ => 0⟩
theorem start_ok (h : WdI tm n g wd) {q : Int} (hq : In n q) : WdI tm n g { wd with pr := fun p => if p = q then startP (wd.pr q) else wd.pr p } := by
  have h1 := h.inv.serve hq (startP (wd.pr q)).sv rfl rfl rfl (fun e => absurd (show (1 : Int) = 2 from e) (by decide)) (fun e => absurd (show (1 : Int) = 3 from e) (by decide)) (.inl rfl)
  have hs : upd (fun q => (wd.pr q).sv) q (startP (wd.pr q)).sv = fun p => (if p = q then startP (wd.pr q) else wd.pr p).sv := by
    funext p
    by_cases e : p = q
    · subst e; simp
    · rw [upd_ne _ _ e]; simp [e]
  rw [hs] at h1
  refine ⟨h1, fun p hp => ?_, h.net, h.lead, h.sure⟩
  show 0 ≤ (if p = q then startP (wd.pr q) else wd.pr p).C
  split
  · exact Int.le_refl _
  · exact h.cpos p hp
/-- Letters are lost. -/
theorem lost_ok (h : WdI tm n g wd) {net : List (Lt E)} (hn : ∀ l ∈ net, l ∈ wd.net) : WdI tm n g { wd with net := net } := ⟨h.inv, h.cpos, fun l hl => h.net l (hn l hl), h.lead, h.sure⟩
def pr0 : Pr E := ⟨0, 0, 0, [], 1, 0, 0, 10, [], fun _ => 0, fun _ => 0⟩
def gh0 : Gh E := ⟨fun _ => 0, fun _ => [], fun _ _ => [], fun _ _ => 0, fun _ _ => [], fun _ _ => 0⟩
/-- How the world begins. -/
theorem begun_ok : WdI tm n (gh0 : Gh E) ⟨fun _ => pr0, [], [], []⟩ := by
  have hc : ∀ LL : Int → List E, Cons tm LL [] := fun LL i e h => by simp at h
  have hk : ∀ k t, ¬ TmK tm ([] : List E) k t := fun k t h => by have := h.len; simp at this; omega
  refine ⟨{ t0 := ?_, vt0 := ?_, vtc := ?_, vin := ?_, vself := ?_, vup := ?_, elm := ?_, elp := ?_, el0 := ?_, cand := ?_, lead := ?_, clog := ?_, cLL := ?_, cCL := ?_, cVL := ?_, tLL := ?_, sLL := ?_, tlog := ?_, tCL := ?_, aLL := ?_, a0 := ?_, i1 := ?_, i2 := ?_, i3 := ?_, com := ?_ }, fun q _ => Int.le_refl _, fun l hl => (by cases hl), fun t v h => (by simp at h), 0, .inl rfl⟩
  · exact fun q _ => Int.le_refl _
  · exact fun q t _ _ => rfl
  · exact fun q _ => rfl
  · exact fun q t _ h => absurd rfl h
  · exact fun q t _ h => absurd rfl h
  · exact fun q t _ h => absurd rfl h
  · exact fun t h => absurd rfl h
  · exact fun t h => absurd rfl h
  · exact fun t _ => rfl
  · exact fun q _ h => absurd (show (1 : Int) = 2 from h) (by decide)
  · exact fun q _ h => absurd (show (1 : Int) = 3 from h) (by decide)
  · exact fun q _ => hc _
  · exact fun t => hc _
  · exact fun q t _ _ => hc _
  · exact fun q t _ _ => hc _
  · exact fun t e h => by cases h
  · exact fun t => List.Pairwise.nil
  · exact fun q e _ h => by cases h
  · exact fun q t e _ _ h => by cases h
  · exact fun q t _ => Nat.le_refl _
  · exact fun q t _ _ => rfl
  · exact fun t' t k h => absurd rfl h
  · exact fun q t k _ _ h => absurd h (hk k t)
  · exact fun q t' t k _ h => absurd rfl h
  · exact fun q _ => .inl rfl
end
end Go.Proofs.Ythfofnfkopnbhaa
namespace Go.Proofs.Ythfofnfkopnbhaa
set_option linter.unusedVariables false
set_option linter.unusedSimpArgs false
set_option linter.unusedSectionVars false

section
variable {E : Type} {tm : E → Int} {n q : Int} {noop : Int → E}
/-- A letter's numbers. -/
structure LB (B : Nat) (M : Int) (l : Lt E) : Prop where
  term : l.term ≤ M
  idx : -1 ≤ l.idx ∧ l.idx + (l.ents.length : Int) ≤ (B : Int)
  ents : l.ents.length ≤ 4
  app : l.kind = 3 → 0 ≤ l.idx
/-- A call's numbers. -/
structure PB (B : Nat) (M : Int) (c : Cs E) : Prop where
  len : c.p.log.length ≤ B
  T : c.p.T ≤ M
  nx : c.p.role = 3 → ∀ p, 1 ≤ c.p.next p ∧ c.p.next p ≤ (c.p.log.length : Int) + 1
  out : ∀ l ∈ c.out, LB B M l
theorem LB.mono {B B' : Nat} {M M' : Int} {l : Lt E} (h : LB B M l) (hB : B ≤ B') (hM : M ≤ M') : LB B' M' l := ⟨by have := h.term; omega, by have := h.idx; omega, h.ents, h.app⟩
theorem PB.mono {B B' : Nat} {M M' : Int} {c : Cs E} (h : PB B M c) (hB : B ≤ B') (hM : M ≤ M') : PB B' M' c := ⟨by have := h.len; omega, by have := h.T; omega, h.nx, fun l hl => (h.out l hl).mono hB hM⟩
theorem pb_send {B : Nat} {M : Int} {c : Cs E} (h : PB B M c) (to : Int) {l : Lt E} (hi : -1 ≤ l.idx ∧ l.idx + (l.ents.length : Int) ≤ (B : Int)) (he : l.ents.length ≤ 4) (ha : l.kind = 3 → 0 ≤ l.idx) : PB B M (sendP q c to l) := by
  refine ⟨h.len, h.T, h.nx, fun x hx => ?_⟩
  rw [sendP, List.mem_append, List.mem_singleton] at hx
  rcases hx with hx | rfl
  · exact h.out x hx
  · exact ⟨h.T, hi, he, ha⟩
theorem from_le {l : List E} {i : Int} (h : i ≤ (l.length : Int) + 1) : i - 1 + ((fromP l i 4).length : Int) ≤ (l.length : Int) ∧ (fromP l i 4).length ≤ 4 := by
  unfold fromP
  split
  · constructor
    · simp
      omega
    · simp
      omega
  · constructor
    · simp
      omega
    · simp
theorem pb_feed {B : Nat} {M : Int} {c : Cs E} (h : PB B M c) (hr : c.p.role = 3) (t : Int) : PB B M (feedP tm q c t) := by
  obtain ⟨n1, n2⟩ := h.nx hr t
  obtain ⟨f1, f2⟩ := from_le n2
  have hl := h.len
  have h1 : PB B M (sendP q c t { (lt0 3 : Lt E) with idx := c.p.next t - 1, was := (tmAt tm c.p.log (c.p.next t - 1)).getD 0, ents := fromP c.p.log (c.p.next t) 4, com := c.p.C }) :=
    pb_send h t ⟨by show -1 ≤ c.p.next t - 1; omega, by show c.p.next t - 1 + ((fromP c.p.log (c.p.next t) 4).length : Int) ≤ (B : Int); omega⟩ f2 (fun _ => by show 0 ≤ c.p.next t - 1; omega)
  refine ⟨h1.len, h1.T, fun _ p => ?_, h1.out⟩
  show 1 ≤ setF c.p.next t (c.p.next t + ((fromP c.p.log (c.p.next t) 4).length : Int)) p ∧ setF c.p.next t (c.p.next t + ((fromP c.p.log (c.p.next t) 4).length : Int)) p ≤ (c.p.log.length : Int) + 1
  unfold setF
  by_cases e : p = t
  · rw [if_pos e]; omega
  · rw [if_neg e]; exact h.nx hr p
theorem pb_feeds {B : Nat} {M : Int} : ∀ (l : List Int) (c : Cs E), PB B M c → c.p.role = 3 → PB B M (l.foldl (feedP tm q) c) ∧ (l.foldl (feedP tm q) c).p.role = 3
  | [], c, h, hr => ⟨h, hr⟩
  | t :: l, c, h, hr => pb_feeds l (feedP tm q c t) (pb_feed h hr t) hr
theorem pb_settle {B : Nat} {M : Int} {c : Cs E} (h : PB B M c) : PB B M (settleP tm n q c) := by
  unfold settleP
  simp only
  split
  · exact ⟨h.len, h.T, h.nx, h.out⟩
  · exact h
theorem pb_changed {B : Nat} {M : Int} {c : Cs E} (h : PB B M c) (i : Int) : PB B M (changedP c i) := by
  unfold changedP
  split
  · exact ⟨h.len, h.T, h.nx, h.out⟩
  · exact h
theorem pb_put {B : Nat} {M : Int} {c : Cs E} (h : PB B M c) (e : E) : PB (B + 1) M (putP c e) := by
  unfold putP
  refine pb_changed (c := { c with p := { c.p with log := c.p.log ++ [e] } }) ⟨?_, h.T, fun hr p => ?_, fun l hl => (h.out l hl).mono (Nat.le_succ _) (Int.le_refl _)⟩ _
  · have := h.len; simp; exact this
  · have := h.nx hr p
    show 1 ≤ c.p.next p ∧ c.p.next p ≤ ((c.p.log ++ [e]).length : Int) + 1
    rw [List.length_append]
    simp
    omega
theorem pb_win {B : Nat} {M : Int} {c : Cs E} (h : PB B M c) : PB (B + 1) M (winP tm noop n q c) := by
  unfold winP
  split
  · simp only
    have h1 : PB (B + 1) M (putP { c with p := { c.p with role := 3, leader := q, next := fun _ => (c.p.log.length : Int) + 1, mat := fun _ => 0 } } (noop c.p.T)) :=
      pb_put (c := { c with p := { c.p with role := 3, leader := q, next := fun _ => (c.p.log.length : Int) + 1, mat := fun _ => 0 } }) ⟨h.len, h.T, fun _ p => ⟨by show (1 : Int) ≤ (c.p.log.length : Int) + 1; omega, Int.le_refl _⟩, h.out⟩ _
    have hr3 : (putP { c with p := { c.p with role := 3, leader := q, next := fun _ => (c.p.log.length : Int) + 1, mat := fun _ => 0 } } (noop c.p.T)).p.role = 3 := by unfold putP; rw [(changed_p _ _).1]
    exact pb_settle (pb_feeds _ _ h1 hr3).1
  · exact h.mono (Nat.le_succ _) (Int.le_refl _)
theorem pb_asks {B : Nat} {M : Int} (f : Lt E) (hi : -1 ≤ f.idx ∧ f.idx + (f.ents.length : Int) ≤ (B : Int)) (he : f.ents.length ≤ 4) (ha : f.kind = 3 → 0 ≤ f.idx) : ∀ (l : List Int) (c : Cs E), PB B M c → PB B M (l.foldl (fun c s => sendP q c s f) c)
  | [], c, h => h
  | t :: l, c, h => pb_asks f hi he ha l _ (pb_send h t hi he ha)
theorem pb_tick {B : Nat} {M : Int} {c : Cs E} (h : PB B M c) (draw : Int) : PB (B + 1) (M + 1) (tickP tm noop n q draw c) := by
  unfold tickP
  split
  · next hr => exact (pb_feeds _ _ h hr).1.mono (Nat.le_succ _) (by omega)
  · simp only
    split
    · unfold standP
      simp only
      refine pb_win (pb_asks _ ⟨?_, ?_⟩ (by simp [lt0]) (fun e => absurd (show (1 : Int) = 3 from e) (by decide)) _ _ ⟨h.len, ?_, fun hr => absurd (show (2 : Int) = 3 from hr) (by decide), fun l hl => (h.out l hl).mono (Nat.le_refl _) (by omega)⟩)
      · show -1 ≤ (c.p.log.length : Int); omega
      · have := h.len
        show (c.p.log.length : Int) + ((([] : List E).length : Nat) : Int) ≤ _
        simp
        omega
      · have := h.T; show c.p.T + 1 ≤ M + 1; omega
    · have := h.mono (Nat.le_succ B) (show M ≤ M + 1 by omega)
      exact ⟨this.len, this.T, this.nx, this.out⟩
theorem fit_len {B : Nat} {log : List E} {i was : Int} {es : List E} {last ch : Int} {log' : List E} (hf : fitP tm log i was es = some (last, ch, log')) (hl : log.length ≤ B) (hi : i + (es.length : Int) ≤ (B : Int)) : log'.length ≤ B ∧ last = i + es.length ∧ 0 ≤ i := by
  have hscan : ∀ (es : List E) (i k : Nat), fitAt tm log i es = some k → i ≤ k := by
    intro es
    induction es with
    | nil => intro i k h; cases h
    | cons e es ih =>
      intro i k h
      unfold fitAt at h
      split at h
      · have := ih _ _ h; omega
      · injection h with h; omega
  unfold fitP at hf
  split at hf
  · next hw =>
    have h0 : 0 ≤ i := by
      unfold tmAt at hw
      split at hw
      · omega
      · split at hw
        · cases hw
        · omega
    injection hf with hf
    split at hf
    · injection hf with h1 hf
      injection hf with h2 h3
      subst h3
      exact ⟨hl, h1.symm, h0⟩
    · next k heq =>
      injection hf with h1 hf
      injection hf with h2 h3
      subst h3
      have := hscan _ _ _ heq
      refine ⟨?_, h1.symm, h0⟩
      rw [List.length_append, List.length_take, List.length_drop]
      omega
  · cases hf
theorem pb_letter {B : Nat} {M : Int} {c : Cs E} (h : PB B M c) (right : Bool) {l : Lt E} (hl : LB B M l) (hmat : c.p.role = 3 → 0 ≤ c.p.mat l.src) : PB (B + 1) M (letterP tm noop n q right l c) := by
  have hB := Nat.le_succ B
  have hM := Int.le_refl M
  have hidx := hl.idx
  have hlen := h.len
  unfold letterP
  split
  · simp only
    have hb : PB B M (if c.p.T < l.term then { c with p := { c.p with T := l.term, V := 0, role := 1, leader := 0 } } else c) ∧ ((if c.p.T < l.term then { c with p := { c.p with T := l.term, V := 0, role := 1, leader := 0 } } else c).p.role = 3 → 0 ≤ (if c.p.T < l.term then { c with p := { c.p with T := l.term, V := 0, role := 1, leader := 0 } } else c).p.mat l.src) := by
      split
      · exact ⟨⟨h.len, hl.term, fun hr => absurd (show (1 : Int) = 3 from hr) (by decide), h.out⟩, fun hr => absurd (show (1 : Int) = 3 from hr) (by decide)⟩
      · exact ⟨h, hmat⟩
    generalize (if c.p.T < l.term then { c with p := { c.p with T := l.term, V := 0, role := 1, leader := 0 } } else c) = c1 at *
    obtain ⟨hb, hm1⟩ := hb
    have h0 : ∀ x : Lt E, x.idx = 0 → x.ents = [] → -1 ≤ x.idx ∧ x.idx + (x.ents.length : Int) ≤ (B : Int) := fun x e1 e2 => by rw [e1, e2]; simp
    split
    · split
      · unfold askedP
        simp only
        split
        · exact (pb_send (c := { c1 with p := { c1.p with V := l.src, waited := 0 } }) ⟨hb.len, hb.T, hb.nx, hb.out⟩ _ (h0 _ rfl rfl) (by simp [lt0]) (fun e => absurd (show (2 : Int) = 3 from e) (by decide))).mono hB hM
        · exact (pb_send hb _ (h0 _ rfl rfl) (by simp [lt0]) (fun e => absurd (show (2 : Int) = 3 from e) (by decide))).mono hB hM
      · split
        · unfold votedP
          split
          · exact pb_win ⟨hb.len, hb.T, hb.nx, hb.out⟩
          · exact hb.mono hB hM
        · split
          · unfold fedP
            split
            · exact hb.mono hB hM
            · simp only
              split
              · refine (pb_send (c := { c1 with p := { c1.p with role := 1, leader := l.src, waited := 0 } }) ⟨hb.len, hb.T, fun hr => absurd (show (1 : Int) = 3 from hr) (by decide), hb.out⟩ _ ⟨?_, ?_⟩ (by simp [lt0]) (fun e => absurd (show (4 : Int) = 3 from e) (by decide))).mono hB hM
                · have := hl.app (by omega)
                  show -1 ≤ min (c1.p.log.length : Int) (l.idx - 1)
                  omega
                · have := hb.len
                  show min (c1.p.log.length : Int) (l.idx - 1) + ((([] : List E).length : Nat) : Int) ≤ _
                  simp
                  omega
              · next last ch log' hf =>
                obtain ⟨f1, f2, f3⟩ := fit_len hf hb.len hidx.2
                have h1 : PB B M (changedP { c1 with p := { c1.p with role := 1, leader := l.src, waited := 0, log := log' } } ch) := pb_changed (c := { c1 with p := { c1.p with role := 1, leader := l.src, waited := 0, log := log' } }) ⟨f1, hb.T, fun hr => absurd (show (1 : Int) = 3 from hr) (by decide), hb.out⟩ _
                have h2 : (changedP { c1 with p := { c1.p with role := 1, leader := l.src, waited := 0, log := log' } } ch).p.role = 1 := by rw [(changed_p _ _).1]
                refine PB.mono (B := B) (M := M) ?_ hB hM
                refine pb_send ?_ _ ⟨?_, ?_⟩ ?_ ?_
                · exact ⟨h1.len, h1.T, fun hr => absurd (h2.symm.trans hr) (by decide), h1.out⟩
                · show -1 ≤ last; omega
                · show last + ((([] : List E).length : Nat) : Int) ≤ _; simp; omega
                · exact Nat.zero_le _
                · exact fun e => absurd (show (4 : Int) = 3 from e) (by decide)
          · unfold ateP
            split
            · exact hb.mono hB hM
            · next hr =>
              have hr : c1.p.role = 3 := by omega
              split
              · next hh =>
                have h1 : PB B M ({ c1 with p := { c1.p with mat := setF c1.p.mat l.src l.idx, next := setF c1.p.next l.src (max (c1.p.next l.src) (l.idx + 1)) } } : Cs E) := by
                  refine ⟨hb.len, hb.T, fun _ p => ?_, hb.out⟩
                  have := hb.nx hr p
                  show 1 ≤ setF c1.p.next l.src (max (c1.p.next l.src) (l.idx + 1)) p ∧ setF c1.p.next l.src (max (c1.p.next l.src) (l.idx + 1)) p ≤ (c1.p.log.length : Int) + 1
                  unfold setF
                  by_cases e : p = l.src
                  · rw [if_pos e, ← e]; omega
                  · rw [if_neg e]; exact this
                have h2 := pb_settle (tm := tm) (n := n) (q := q) h1
                have h3 : (settleP tm n q { c1 with p := { c1.p with mat := setF c1.p.mat l.src l.idx, next := setF c1.p.next l.src (max (c1.p.next l.src) (l.idx + 1)) } }).p.role = 3 := by
                  unfold settleP
                  simp only
                  split <;> exact hr
                simp only
                split
                · exact (pb_feed h2 h3 _).mono hB hM
                · exact h2.mono hB hM
              · split
                · next hh =>
                  have hm := hm1 hr
                  refine (pb_feed (c := { c1 with p := { c1.p with next := setF c1.p.next l.src (l.idx + 1) } }) ⟨hb.len, hb.T, fun _ p => ?_, hb.out⟩ hr _).mono hB hM
                  have h5 := hb.nx hr p
                  have h6 := hb.nx hr l.src
                  show 1 ≤ setF c1.p.next l.src (l.idx + 1) p ∧ setF c1.p.next l.src (l.idx + 1) p ≤ (c1.p.log.length : Int) + 1
                  unfold setF
                  by_cases e : p = l.src
                  · rw [if_pos e]; omega
                  · rw [if_neg e]; exact h5
                · exact hb.mono hB hM
    · split
      · exact (pb_send hb _ (h0 _ rfl rfl) (by simp [lt0]) (fun e => absurd (show (2 : Int) = 3 from e) (by decide))).mono hB hM
      · split
        · exact (pb_send hb _ (h0 _ rfl rfl) (by simp [lt0]) (fun e => absurd (show (4 : Int) = 3 from e) (by decide))).mono hB hM
        · exact hb.mono hB hM
  · exact h.mono hB hM
theorem pb_propose {B : Nat} {M : Int} {c : Cs E} (h : PB B M c) (e : E) : PB (B + 1) M (proposeP tm n q e c) := pb_settle (pb_put h e)
end
end Go.Proofs.Ythfofnfkopnbhaa
