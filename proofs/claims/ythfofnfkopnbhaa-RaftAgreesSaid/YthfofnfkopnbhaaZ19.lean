/- raft, the plain law: what a peer does keeps what holds: letters are sent, servers are fed, entries commit. raft, the plain law: what most have; entries commit; a leader's log grows. raft, the plain law: a peer stands, wins, ticks, proposes. raft, the plain law: a letter comes. -/
import Derived.Test.YthfofnfkopnbhaaZ6
namespace Go.Proofs.Ythfofnfkopnbhaa
set_option linter.unusedVariables false
set_option linter.unusedSimpArgs false
set_option linter.unusedSectionVars false

section
variable {E : Type} (tm : E → Int) (n q : Int) (ins : List (Lt E))
/-- A call under way, among all servers. -/
structure WS (g : Gh E) (s : Int → Srv E) (c : Cs E) : Prop where
  inv : Inv tm n g s
  at_ : s q = c.p.sv
  cpos : 0 ≤ c.p.C
  lets : ∀ l ∈ c.out, LtOk tm n g l
  inn : ∀ l ∈ ins, LtOk tm n g l
/-- A step keeps what holds. -/
def St (c c' : Cs E) : Prop := ∀ g s, WS tm n q ins g s c → ∃ g' s', WS tm n q ins g' s' c' ∧ Le n g g' ∧ ∀ p, p ≠ q → s' p = s p
end
section
variable {E : Type} {tm : E → Int} {n q : Int} {ins : List (Lt E)}
theorem St.refl (c : Cs E) : St tm n q ins c c := fun g s h => ⟨g, s, h, Le.refl _, fun _ _ => rfl⟩
theorem St.trans {a b c : Cs E} (h : St tm n q ins a b) (k : St tm n q ins b c) : St tm n q ins a c := fun g s hw => by
  obtain ⟨g1, s1, w1, l1, o1⟩ := h g s hw
  obtain ⟨g2, s2, w2, l2, o2⟩ := k g1 s1 w1
  exact ⟨g2, s2, w2, l1.trans l2, fun p hp => (o2 p hp).trans (o1 p hp)⟩
/-- A letter is sent whose claim is so. -/
theorem st_send {c : Cs E} {to : Int} {l : Lt E} (h : ∀ g s, WS tm n q ins g s c → LtOk tm n g { l with src := q, dst := to, term := c.p.T }) : St tm n q ins c (sendP q c to l) := fun g s hw => by
  refine ⟨g, s, ⟨hw.inv, hw.at_, hw.cpos, fun x hx => ?_, hw.inn⟩, Le.refl _, fun _ _ => rfl⟩
  rw [sendP, List.mem_append, List.mem_singleton] at hx
  rcases hx with hx | rfl
  · exact hw.lets x hx
  · exact h g s hw
/-- What no other server sees is turned. -/
theorem st_serve {c : Cs E} (hq : In n q) {p' : Pr E} (hT : p'.T = c.p.T) (hV : p'.V = c.p.V) (hl : p'.log = c.p.log) (hc : ∀ g s, WS tm n q ins g s c → 0 ≤ p'.C)
    (h2 : ∀ g s, WS tm n q ins g s c → p'.role = 2 → p'.V = q ∧ g.el p'.T ≠ q ∧ p'.log = g.CL p'.T q ∧ p'.votes.Nodup ∧ ∀ p ∈ p'.votes, In n p ∧ g.VT p p'.T = q)
    (h3 : ∀ g s, WS tm n q ins g s c → p'.role = 3 → g.el p'.T = q ∧ g.LL p'.T = p'.log ∧ g.A q p'.T = p'.log.length ∧ (∀ p, In n p → p ≠ q → 0 ≤ p'.mat p ∧ p'.mat p ≤ (g.A p p'.T : Int)) ∧ ∀ p, In n p → p ≠ q → 1 ≤ p'.next p ∧ p'.next p ≤ (p'.log.length : Int) + 1)
    (hC : ∀ g s, WS tm n q ins g s c → CC tm n g p'.log p'.T p'.C.toNat) : St tm n q ins c { c with p := p' } := fun g s hw => by
  have e := hw.at_
  refine ⟨g, upd s q p'.sv, ⟨hw.inv.serve hq p'.sv (by rw [e]; exact hT) (by rw [e]; exact hV) (by rw [e]; exact hl) (h2 g s hw) (h3 g s hw) (hC g s hw), upd_same _ _ _, hc g s hw, hw.lets, hw.inn⟩, Le.refl _, fun p hp => upd_ne _ _ hp⟩
theorem WS.cc {g : Gh E} {s : Int → Srv E} {c : Cs E} (h : WS tm n q ins g s c) (hq : In n q) : CC tm n g c.p.log c.p.T c.p.C.toNat := by
  have := h.inv.com q hq
  rw [h.at_] at this
  exact this
theorem WS.ld {g : Gh E} {s : Int → Srv E} {c : Cs E} (h : WS tm n q ins g s c) (hq : In n q) (hr : c.p.role = 3) : g.el c.p.T = q ∧ g.LL c.p.T = c.p.log ∧ g.A q c.p.T = c.p.log.length ∧ (∀ p, In n p → p ≠ q → 0 ≤ c.p.mat p ∧ c.p.mat p ≤ (g.A p c.p.T : Int)) ∧ ∀ p, In n p → p ≠ q → 1 ≤ c.p.next p ∧ c.p.next p ≤ (c.p.log.length : Int) + 1 := by
  have := h.inv.lead q hq (by rw [h.at_]; exact hr)
  rw [h.at_] at this
  exact this
theorem from_len {l : List E} {i : Int} {k : Nat} (h1 : 1 ≤ i) (h2 : i ≤ (l.length : Int) + 1) : (i - 1).toNat + (fromP l i k).length ≤ l.length ∧ fromP l i k = (l.drop (i - 1).toNat).take (fromP l i k).length := by
  unfold fromP
  split
  · constructor
    · simp
      omega
    · rw [List.length_take, List.length_drop, ← List.take_take, List.take_of_length_le (l := l.drop (i - 1).toNat) (i := l.length - (i - 1).toNat) (by simp)]
  · constructor
    · simp
      omega
    · simp
theorem tmAt_some {l : List E} {i : Int} (h1 : 0 ≤ i) (h2 : i ≤ (l.length : Int)) : tmAt tm l i = some ((tmAt tm l i).getD 0) := by
  unfold tmAt
  by_cases h0 : i = 0
  · simp [h0]
  · rw [if_neg h0, if_neg (by omega), List.getElem?_eq_getElem (by omega)]
    rfl
/-- A server is fed. -/
theorem st_feed {c : Cs E} (hq : In n q) (hr : c.p.role = 3) {t : Int} (ht : In n t) (htq : t ≠ q) : St tm n q ins c (feedP tm q c t) ∧ (feedP tm q c t).p.role = 3 ∧ (feedP tm q c t).p.T = c.p.T ∧ (feedP tm q c t).p.log = c.p.log ∧ (feedP tm q c t).p.mat = c.p.mat ∧ (feedP tm q c t).p.C = c.p.C := by
  refine ⟨?_, hr, rfl, rfl, rfl, rfl⟩
  unfold feedP
  refine St.trans (b := sendP q c t { (lt0 3 : Lt E) with idx := c.p.next t - 1, was := (tmAt tm c.p.log (c.p.next t - 1)).getD 0, ents := fromP c.p.log (c.p.next t) 4, com := c.p.C }) (st_send fun g s h => ?_) ?_
  · obtain ⟨l1, l2, l3, l4, l5⟩ := h.ld hq hr
    obtain ⟨n1, n2⟩ := l5 t ht htq
    obtain ⟨f1, f2⟩ := from_len (k := 4) n1 n2
    refine ⟨hq, ht, fun e => absurd (show (3 : Int) = 1 from e) (by decide), fun e => absurd (show (3 : Int) = 2 from e) (by decide), fun _ => ⟨l1, by show 0 ≤ c.p.next t - 1; omega, ?_, ?_, ?_, h.cpos, ?_⟩, fun e => absurd (show (3 : Int) = 4 from e) (by decide)⟩
    · show (c.p.next t - 1).toNat + _ ≤ (g.LL c.p.T).length
      rw [l2]; exact f1
    · show fromP _ _ _ = ((g.LL c.p.T).drop (c.p.next t - 1).toNat).take _
      rw [l2]; exact f2
    · show tmAt tm (g.LL c.p.T) (c.p.next t - 1) = _
      rw [l2]; exact tmAt_some (by omega) (by omega)
    · show CC tm n g (g.LL c.p.T) c.p.T c.p.C.toNat
      rw [l2]; exact h.cc hq
  · refine st_serve hq rfl rfl rfl (fun g s h => h.cpos) (fun g s h e => absurd (hr.symm.trans e) (by decide)) (fun g s h _ => ?_) (fun g s h => h.cc hq)
    · obtain ⟨l1, l2, l3, l4, l5⟩ := h.ld hq hr
      refine ⟨l1, l2, l3, l4, fun p hp hpq => ?_⟩
      show 1 ≤ setF c.p.next t _ p ∧ setF c.p.next t _ p ≤ _
      obtain ⟨n1, n2⟩ := l5 p hp hpq
      unfold setF
      by_cases e : p = t
      · subst e
        have n1 : 1 ≤ c.p.next p := n1
        have n2 : c.p.next p ≤ (c.p.log.length : Int) + 1 := n2
        have := (from_len (l := c.p.log) (k := 4) n1 n2).1
        simp only [if_true]
        show 1 ≤ c.p.next p + ((fromP c.p.log (c.p.next p) 4).length : Int) ∧ c.p.next p + ((fromP c.p.log (c.p.next p) 4).length : Int) ≤ (c.p.log.length : Int) + 1
        omega
      · simp only [if_neg e]
        exact ⟨n1, n2⟩
end
end Go.Proofs.Ythfofnfkopnbhaa
namespace Go.Proofs.Ythfofnfkopnbhaa
set_option linter.unusedVariables false
set_option linter.unusedSimpArgs false
set_option linter.unusedSectionVars false

theorem all_nodup (n : Int) : ((List.range n.toNat).map fun (k : Nat) => (k : Int) + 1).Nodup := by
  refine List.Pairwise.map _ (fun a b h => ?_) List.nodup_range
  omega
theorem mem_all {n s : Int} : (s ∈ (List.range n.toNat).map fun (k : Nat) => (k : Int) + 1) ↔ In n s := by
  rw [List.mem_map]
  unfold In
  constructor
  · rintro ⟨k, hk, rfl⟩
    rw [List.mem_range] at hk
    omega
  · intro h
    exact ⟨(s - 1).toNat, List.mem_range.2 (by omega), by omega⟩
theorem mem_others {n q s : Int} : s ∈ others n q ↔ In n s ∧ s ≠ q := by
  unfold others
  rw [List.mem_filter, mem_all]
  simp
theorem others_nodup (n q : Int) : (others n q).Nodup := (all_nodup n).filter _
theorem others_len {n q : Int} (hq : In n q) : ((others n q).length : Int) = n - 1 := by
  have h1 := (all_nodup n).erase_eq_filter q
  have h2 := List.length_erase_of_mem (mem_all.2 hq)
  have h3 : others n q = ((List.range n.toNat).map fun (k : Nat) => (k : Int) + 1).erase q := by
    rw [h1]
    unfold others
    congr 1
    funext s
    by_cases e : s = q <;> simp [e]
  rw [h3, h2]
  simp
  unfold In at hq
  omega
/-- At least that many have what is at the middle. -/
theorem med_count {n : Int} {l : List Int} (hn : 1 ≤ n) (hl : (l.length : Int) = n) : n - (n - 1) / 2 ≤ ((l.filter fun x => decide (medP n l ≤ x)).length : Int) := by
  have hp : (l.mergeSort (fun a b => decide (a ≤ b))).Perm l := List.mergeSort_perm _ _
  have hs : (l.mergeSort (fun a b => decide (a ≤ b))).Pairwise (fun a b => decide (a ≤ b) = true) := List.pairwise_mergeSort (fun a b c h1 h2 => by simp at *; omega) (fun a b => by simp; omega) l
  have hlen : (l.mergeSort (fun a b => decide (a ≤ b))).length = l.length := hp.length_eq
  have hf := (hp.filter (fun x => decide (medP n l ≤ x))).length_eq
  have hm : medP n l = (l.mergeSort (fun a b => decide (a ≤ b))).getD ((n - 1) / 2).toNat 0 := rfl
  rw [← hf]
  generalize l.mergeSort (fun a b => decide (a ≤ b)) = S at *
  generalize hk : ((n - 1) / 2).toNat = k at *
  have hkl : k < S.length := by omega
  rw [List.getD_eq_getElem?_getD, List.getElem?_eq_getElem hkl] at hm
  simp only [Option.getD_some] at hm
  have h1 : (S.drop k).filter (fun x => decide (medP n l ≤ x)) = S.drop k := by
    rw [List.filter_eq_self]
    intro x hx
    obtain ⟨i, hi, rfl⟩ := List.mem_iff_getElem.1 hx
    rw [List.getElem_drop, hm]
    simp
    rw [List.length_drop] at hi
    rcases Nat.eq_zero_or_pos i with h0 | h0
    · subst h0; exact Int.le_refl _
    · have := List.pairwise_iff_getElem.1 hs k (k + i) hkl (by omega) (by omega)
      simpa using this
  have h2 : ((S.drop k).filter (fun x => decide (medP n l ≤ x))).length ≤ (S.filter (fun x => decide (medP n l ≤ x))).length := ((List.drop_sublist k S).filter _).length_le
  rw [h1, List.length_drop] at h2
  omega
section
variable {E : Type} {tm : E → Int} {n q : Int} {ins : List (Lt E)}
theorem med_maj {len : Int} (mat : Int → Int) (hq : In n q) : Maj n fun p => p = q ∨ medP n (len :: (others n q).map mat) ≤ mat p := by
  have hn : 1 ≤ n := by unfold In at hq; omega
  have hl := others_len hq
  have hc := med_count (l := len :: (others n q).map mat) hn (by simp; omega)
  generalize medP n (len :: (others n q).map mat) = m at *
  refine ⟨q :: (others n q).filter (fun p => decide (m ≤ mat p)), ?_, ?_, by omega, ?_⟩
  · rw [List.nodup_cons]
    exact ⟨fun h => (mem_others.1 (List.mem_filter.1 h).1).2 rfl, (others_nodup n q).filter _⟩
  · intro p hp
    rcases List.mem_cons.1 hp with rfl | hp
    · exact ⟨hq, .inl rfl⟩
    · obtain ⟨h1, h2⟩ := List.mem_filter.1 hp
      exact ⟨(mem_others.1 h1).1, .inr (by simpa using h2)⟩
  · have h1 : ((len :: (others n q).map mat).filter fun x => decide (m ≤ x)).length ≤ 1 + ((others n q).filter (fun p => decide (m ≤ mat p))).length := by
      rw [List.filter_cons]
      have : (((others n q).map mat).filter fun x => decide (m ≤ x)).length = ((others n q).filter (fun p => decide (m ≤ mat p))).length := by
        rw [List.filter_map, List.length_map]
        rfl
      split
      · simp only [List.length_cons]; omega
      · omega
    simp only [List.length_cons]
    omega
theorem tmK_of {l : List E} {i t : Int} (h : (tmAt tm l i).getD 0 = t) (ht : 1 ≤ t) : 1 ≤ i ∧ TmK tm l i.toNat t := by
  unfold tmAt at h
  by_cases h0 : i = 0
  · simp [h0] at h; omega
  · rw [if_neg h0] at h
    by_cases h1 : i < 0
    · simp [h1] at h; omega
    · rw [if_neg h1] at h
      refine ⟨by omega, by omega, ?_⟩
      cases hx : l[(i - 1).toNat]? with
      | none => rw [hx] at h; simp at h; omega
      | some e =>
        rw [hx] at h
        simp at h
        exact ⟨e, by rw [show i.toNat - 1 = (i - 1).toNat by omega]; exact hx, h⟩
/-- Entries commit. -/
theorem st_settle {c : Cs E} (hq : In n q) (hr : c.p.role = 3) : St tm n q ins c (settleP tm n q c) ∧ (settleP tm n q c).p.role = 3 ∧ (settleP tm n q c).p.T = c.p.T ∧ (settleP tm n q c).p.log = c.p.log ∧ (settleP tm n q c).p.next = c.p.next ∧ c.p.C ≤ (settleP tm n q c).p.C ∧ (settleP tm n q c).out = c.out ∧ (settleP tm n q c).frm = c.frm := by
  have hm := med_maj (len := (c.p.log.length : Int)) c.p.mat hq
  unfold settleP
  generalize medP n ((c.p.log.length : Int) :: (others n q).map c.p.mat) = m at *
  simp only
  split
  · next h =>
    obtain ⟨h1, h2⟩ := h
    refine ⟨st_serve hq rfl rfl rfl (fun g s hw => ?_) (fun g s _ e => absurd (hr.symm.trans e) (by decide)) (fun g s hw _ => hw.ld hq hr) (fun g s hw => ?_), hr, rfl, rfl, rfl, by show c.p.C ≤ m; omega, rfl, rfl⟩
    · show 0 ≤ m
      have := hw.cpos
      omega
    · have hl := hw.inv.leads hq (by rw [hw.at_]; exact hr)
      have ht1 : 1 ≤ c.p.T := by have := hl.t1; rw [hw.at_] at this; exact this
      obtain ⟨k1, k2⟩ := tmK_of h2 ht1
      have := hw.inv.settle hq (by rw [hw.at_]; exact hr) (at_ := m.toNat) (by rw [hw.at_]; exact k2) (hm.mono fun p hp h => by
        rcases h with h | h
        · exact .inl h
        · right; rw [hw.at_]; show (m.toNat : Int) ≤ c.p.mat p; omega)
      rw [hw.at_] at this
      exact this
  · exact ⟨St.refl _, hr, rfl, rfl, rfl, Int.le_refl _, rfl, rfl⟩
end
end Go.Proofs.Ythfofnfkopnbhaa
namespace Go.Proofs.Ythfofnfkopnbhaa
set_option linter.unusedVariables false
set_option linter.unusedSimpArgs false
set_option linter.unusedSectionVars false

section
variable {E : Type} {tm : E → Int} {n q : Int} {ins : List (Lt E)}
/-- What plays no part is turned. -/
theorem st_idle {c : Cs E} (hq : In n q) {c' : Cs E} (hp : c'.p.sv = c.p.sv) (hc : c'.p.C = c.p.C) (ho : c'.out = c.out) : St tm n q ins c c' := fun g s hw =>
  ⟨g, s, ⟨hw.inv, by rw [hp]; exact hw.at_, by rw [hc]; exact hw.cpos, by rw [ho]; exact hw.lets, hw.inn⟩, Le.refl _, fun _ _ => rfl⟩
theorem changed_p (c : Cs E) (i : Int) : (changedP c i).p = c.p ∧ (changedP c i).out = c.out := by unfold changedP; split <;> exact ⟨rfl, rfl⟩
/-- A leader's log grows. -/
theorem st_grow {c c' : Cs E} (hq : In n q) {e : E} (he : tm e = c.p.T) (hT : c'.p.T = c.p.T) (hV : c'.p.V = c.p.V) (hlog : c'.p.log = c.p.log ++ [e]) (hr : c'.p.role = 3) (hC : c'.p.C = c.p.C) (ho : c'.out = c.out)
    (hld : ∀ g s, WS tm n q ins g s c → Ld tm n g s q ∧ (∀ p, In n p → p ≠ q → 0 ≤ c'.p.mat p ∧ c'.p.mat p ≤ (g.A p c.p.T : Int)) ∧ ∀ p, In n p → p ≠ q → 1 ≤ c'.p.next p ∧ c'.p.next p ≤ (c'.p.log.length : Int) + 1) : St tm n q ins c c' := fun g s hw => by
  obtain ⟨h1, h2, h3⟩ := hld g s hw
  have e0 := hw.at_
  have eT : (s q).T = c.p.T := by rw [e0]; rfl
  have eL : (s q).log = c.p.log := by rw [e0]; rfl
  have hle := lead_le hw.inv hq h1 e
  refine ⟨_, upd s q c'.p.sv, ⟨hw.inv.grow hq h1 e (by rw [eT]; exact he) c'.p.sv (by rw [eT]; exact hT) (by rw [e0]; exact hV) (by rw [eL]; exact hlog) hr (by rw [e0]; show c'.p.C.toNat = c.p.C.toNat; rw [hC]) (fun p hp hpq => ?_) h3, upd_same _ _ _, by rw [hC]; exact hw.cpos, fun l hl => ?_, fun l hl => (hw.inn l hl).le hle⟩, hle, fun p hp => upd_ne _ _ hp⟩
  · show 0 ≤ c'.p.mat p ∧ c'.p.mat p ≤ (g.A p c'.p.T : Int)
    rw [hT]
    exact h2 p hp hpq
  · rw [ho] at hl
    exact (hw.lets l hl).le hle
theorem st_put {c : Cs E} (hq : In n q) (hr : c.p.role = 3) {e : E} (he : tm e = c.p.T) : St tm n q ins c (putP c e) ∧ (putP c e).p.role = 3 ∧ (putP c e).p.T = c.p.T ∧ (putP c e).p.log = c.p.log ++ [e] := by
  obtain ⟨p1, p2⟩ := changed_p { c with p := { c.p with log := c.p.log ++ [e] } } ((c.p.log.length : Int) + 1)
  unfold putP
  refine ⟨st_grow hq he (by rw [p1]) (by rw [p1]) (by rw [p1]) (by rw [p1]; exact hr) (by rw [p1]) (by rw [p2]) (fun g s hw => ?_), by rw [p1]; exact hr, by rw [p1], by rw [p1]⟩
  obtain ⟨l1, l2, l3, l4, l5⟩ := hw.ld hq hr
  refine ⟨hw.inv.leads hq (by rw [hw.at_]; exact hr), by rw [p1]; exact l4, fun p hp hpq => ?_⟩
  have := l5 p hp hpq
  rw [p1]
  show 1 ≤ c.p.next p ∧ c.p.next p ≤ ((c.p.log ++ [e]).length : Int) + 1
  rw [List.length_append]
  simp
  omega
theorem st_feeds (hq : In n q) : ∀ (l : List Int) (c : Cs E), c.p.role = 3 → (∀ t ∈ l, In n t ∧ t ≠ q) → St tm n q ins c (l.foldl (feedP tm q) c) ∧ (l.foldl (feedP tm q) c).p.role = 3 ∧ (l.foldl (feedP tm q) c).p.T = c.p.T ∧ (l.foldl (feedP tm q) c).p.log = c.p.log
  | [], c, hr, _ => ⟨St.refl _, hr, rfl, rfl⟩
  | t :: l, c, hr, hl => by
    obtain ⟨f1, f2, f3, f4, _⟩ := st_feed (ins := ins) hq hr (hl t (List.mem_cons_self ..)).1 (hl t (List.mem_cons_self ..)).2
    obtain ⟨g1, g2, g3, g4⟩ := st_feeds hq l (feedP tm q c t) f2 (fun x hx => hl x (List.mem_cons_of_mem _ hx))
    exact ⟨f1.trans g1, g2, g3.trans f3, g4.trans f4⟩
variable {noop : Int → E}
theorem st_win (hno : ∀ t, tm (noop t) = t) {c : Cs E} (hq : In n q) (hr : c.p.role = 2) : St tm n q ins c (winP tm noop n q c) ∧ (winP tm noop n q c).p.T = c.p.T := by
  unfold winP
  split
  · next hv =>
    obtain ⟨p1, p2⟩ := changed_p { c with p := { c.p with role := 3, leader := q, next := fun _ => (c.p.log.length : Int) + 1, mat := fun _ => 0, log := c.p.log ++ [noop c.p.T] } } ((c.p.log.length : Int) + 1)
    have h1 : St tm n q ins c (putP { c with p := { c.p with role := 3, leader := q, next := fun _ => (c.p.log.length : Int) + 1, mat := fun _ => 0 } } (noop c.p.T)) := by
      unfold putP
      refine st_grow hq (hno c.p.T) (by rw [p1]) (by rw [p1]) (by rw [p1]) (by rw [p1]) (by rw [p1]) (by rw [p2]) (fun g s hw => ?_)
      have hs := hw.at_
      have hc := hw.inv.cand q hq (by rw [hs]; exact hr)
      rw [hs] at hc
      obtain ⟨c1, c2, c3, c4, c5⟩ := hc
      refine ⟨hw.inv.wins hq (by rw [hs]; exact hr) ⟨c.p.votes, c4, fun p hp => ⟨(c5 p hp).1, by rw [hs]; exact hp⟩, by unfold In at hq; omega, by omega⟩, fun p hp hpq => ?_, fun p hp hpq => ?_⟩
      · rw [p1]
        exact ⟨Int.le_refl _, Int.natCast_nonneg _⟩
      · rw [p1]
        show (1 : Int) ≤ (c.p.log.length : Int) + 1 ∧ (c.p.log.length : Int) + 1 ≤ ((c.p.log ++ [noop c.p.T]).length : Int) + 1
        rw [List.length_append]
        simp
        omega
    have hr3 : (putP { c with p := { c.p with role := 3, leader := q, next := fun _ => (c.p.log.length : Int) + 1, mat := fun _ => 0 } } (noop c.p.T)).p.role = 3 := by unfold putP; rw [p1]
    have hT3 : (putP { c with p := { c.p with role := 3, leader := q, next := fun _ => (c.p.log.length : Int) + 1, mat := fun _ => 0 } } (noop c.p.T)).p.T = c.p.T := by unfold putP; rw [p1]
    obtain ⟨f1, f2, f3, f4⟩ := st_feeds (ins := ins) (tm := tm) hq (others n q) _ hr3 (fun t ht => mem_others.1 ht)
    obtain ⟨k1, k2, k3, _⟩ := st_settle (ins := ins) (tm := tm) hq f2
    exact ⟨(h1.trans f1).trans k1, k3.trans (f3.trans hT3)⟩
  · exact ⟨St.refl _, rfl⟩
/-- A peer stands: it comes to the next term, and votes for itself. -/
theorem st_rise {c : Cs E} (hq : In n q) {c' : Cs E} (hT : c'.p.T = c.p.T + 1) (hV : c'.p.V = q) (hl : c'.p.log = c.p.log) (hr : c'.p.role = 2) (hv : c'.p.votes = [q]) (hC : c'.p.C = c.p.C) (ho : c'.out = c.out) : St tm n q ins c c' := fun g s hw => by
  have e0 := hw.at_
  have eT : (s q).T = c.p.T := by rw [e0]; rfl
  have eL : (s q).log = c.p.log := by rw [e0]; rfl
  have t0 := hw.inv.t0 q hq
  let v0 : Srv E := { c.p.sv with T := c.p.T + 1, V := 0, role := 1 }
  have h1 := hw.inv.bump hq v0 (by rw [eT]; show c.p.T < c.p.T + 1; omega) rfl (by rw [eL] <;> rfl) rfl (by rw [e0] <;> rfl)
  have es : upd s q v0 q = v0 := upd_same _ _ _
  have hle := vote_le h1 hq (c := q) (by rw [es]) c'.p.log
  have h2 := h1.vote hq (c := q) (by rw [es]) (by rw [es]) hq (by rw [es]; show 1 ≤ c.p.T + 1; rw [eT] at t0; omega) c'.p.sv (by rw [es]; exact hT) hV (by rw [es]; exact hl) (by rw [es]; show c'.p.C.toNat = c.p.C.toNat; rw [hC])
    (fun h => absurd rfl h) (fun _ => ⟨fun e he => by
      have he : e ∈ c.p.log := by rw [← hl]; exact he
      have := hw.inv.tlog q e hq (by rw [eL]; exact he)
      show tm e < c'.p.T
      rw [hT]
      rw [eT] at this
      omega, hr, hv⟩)
  rw [es, show v0.T = c'.p.sv.T from hT.symm] at hle
  refine ⟨_, upd (upd s q v0) q c'.p.sv, ⟨h2, upd_same _ _ _, by rw [hC]; exact hw.cpos, fun l hl => ?_, fun l hl => (hw.inn l hl).le hle⟩, hle, fun p hp => by rw [upd_ne _ _ hp, upd_ne _ _ hp]⟩
  rw [ho] at hl
  exact (hw.lets l hl).le hle
theorem st_asks (hq : In n q) (idx was : Int) : ∀ (l : List Int) (c : Cs E), c.p.role = 2 → idx = (c.p.log.length : Int) → was = lastT tm c.p.log → (∀ t ∈ l, In n t ∧ t ≠ q) →
    St tm n q ins c (l.foldl (fun c s => sendP q c s { (lt0 1 : Lt E) with idx := idx, was := was }) c) ∧ (l.foldl (fun c s => sendP q c s { (lt0 1 : Lt E) with idx := idx, was := was }) c).p = c.p
  | [], c, hr, _, _, _ => ⟨St.refl _, rfl⟩
  | t :: l, c, hr, h1, h2, hl => by
    obtain ⟨g1, g2⟩ := st_asks hq idx was l (sendP q c t { (lt0 1 : Lt E) with idx := idx, was := was }) hr h1 h2 (fun x hx => hl x (List.mem_cons_of_mem _ hx))
    refine ⟨St.trans (st_send fun g s hw => ?_) g1, g2⟩
    have hs := hw.at_
    have hc := hw.inv.cand q hq (by rw [hs]; exact hr)
    have hvt := hw.inv.vtc q hq
    rw [hs] at hc hvt
    obtain ⟨c1, c2, c3, _⟩ := hc
    refine ⟨hq, (hl t (List.mem_cons_self ..)).1, fun _ => ⟨hvt.trans c1, ?_, ?_⟩, fun e => absurd (show (1 : Int) = 2 from e) (by decide), fun e => absurd (show (1 : Int) = 3 from e) (by decide), fun e => absurd (show (1 : Int) = 4 from e) (by decide)⟩
    · show idx = ((g.CL c.p.T q).length : Int)
      rw [h1, show g.CL c.p.T q = c.p.log from c3.symm]
    · show was = lastT tm (g.CL c.p.T q)
      rw [h2, show g.CL c.p.T q = c.p.log from c3.symm]
theorem st_stand (hno : ∀ t, tm (noop t) = t) {c : Cs E} (hq : In n q) (draw : Int) : St tm n q ins c (standP tm noop n q draw c) := by
  unfold standP
  have h1 : St tm n q ins c { c with p := { c.p with limit := 10 + ((draw.tmod 10) + 10).tmod 10, T := c.p.T + 1, V := q, role := 2, leader := 0, waited := 0, votes := [q] } } := st_rise hq rfl rfl rfl rfl rfl rfl rfl
  obtain ⟨a1, a2⟩ := st_asks (ins := ins) (tm := tm) (q := q) hq (c.p.log.length : Int) (lastT tm c.p.log) (others n q) { c with p := { c.p with limit := 10 + ((draw.tmod 10) + 10).tmod 10, T := c.p.T + 1, V := q, role := 2, leader := 0, waited := 0, votes := [q] } } rfl rfl rfl (fun t ht => mem_others.1 ht)
  exact (h1.trans a1).trans (st_win hno hq (by rw [a2])).1
theorem st_tick (hno : ∀ t, tm (noop t) = t) {c : Cs E} (hq : In n q) (draw : Int) : St tm n q ins c (tickP tm noop n q draw c) := by
  unfold tickP
  split
  · next h => exact (st_feeds hq (others n q) c h (fun t ht => mem_others.1 ht)).1
  · have h1 : St tm n q ins c { c with p := { c.p with waited := c.p.waited + 1 } } := st_idle hq rfl rfl rfl
    simp only
    split
    · exact h1.trans (st_stand hno hq draw)
    · exact h1
theorem st_propose {c : Cs E} (hq : In n q) (hr : c.p.role = 3) {e : E} (he : tm e = c.p.T) : St tm n q ins c (proposeP tm n q e c) := by
  obtain ⟨h1, h2, _⟩ := st_put (ins := ins) hq hr he
  exact h1.trans (st_settle hq h2).1
end
end Go.Proofs.Ythfofnfkopnbhaa
namespace Go.Proofs.Ythfofnfkopnbhaa
set_option linter.unusedVariables false
set_option linter.unusedSimpArgs false
set_option linter.unusedSectionVars false

section
variable {E : Type} {tm : E → Int} {n q : Int} {ins : List (Lt E)} {g : Gh E} {s : Int → Srv E}
theorem CC.down {l : List E} {T : Int} {c c' : Nat} (h : CC tm n g l T c) (hc : c' ≤ c) : CC tm n g l T c' := by
  rcases h with h0 | ⟨t, k, h1, h2, h3, h4, h5⟩
  · exact .inl (by omega)
  · exact .inr ⟨t, k, h1, h2, by omega, by omega, take_le h5 hc⟩
theorem CC.other {l l' : List E} {T : Int} {c : Nat} (h : CC tm n g l T c) (he : l'.take c = l.take c) : CC tm n g l' T c := by
  rcases h with h0 | ⟨t, k, h1, h2, h3, h4, h5⟩
  · exact .inl h0
  · exact .inr ⟨t, k, h1, h2, h3, take_len he h4, he.trans h5⟩
theorem tmK_at {l : List E} {i : Nat} {x : Int} (h : tmAt tm l (i : Int) = some x) (h1 : 1 ≤ i) : TmK tm l i x := by
  unfold tmAt at h
  rw [if_neg (by omega), if_neg (by omega), Option.map_eq_some_iff] at h
  obtain ⟨e, h2, h3⟩ := h
  exact ⟨h1, e, by rw [show i - 1 = ((i : Int) - 1).toNat by omega]; exact h2, h3⟩
/-- Two logs that have the same term at an index are the same up to it. -/
theorem cons_same {LL : Int → List E} {l l' : List E} (h : Cons tm LL l) (h' : Cons tm LL l') {k : Nat} {t : Int} (hk : TmK tm l k t) (hk' : TmK tm l' k t) : l.take k = l'.take k := (h.at_ hk).1.trans (h'.at_ hk').1.symm
/-- What fitting finds. -/
theorem fit_scan {LL : Int → List E} {log L : List E} (h : Cons tm LL log) (h' : Cons tm LL L) : ∀ (es : List E) (i : Nat), i + es.length ≤ L.length → es = (L.drop i).take es.length → log.take i = L.take i →
    match fitAt tm log i es with
    | none => log.take (i + es.length) = L.take (i + es.length)
    | some k => i ≤ k ∧ k < i + es.length ∧ log.take k = L.take k ∧ log.take (k + 1) ≠ L.take (k + 1)
  | [], i, _, _, hi => hi
  | e :: es, i, hl, he, hi => by
    simp only [List.length_cons] at hl he
    have hL : L.drop i = L[i] :: L.drop (i + 1) := List.drop_eq_getElem_cons (by omega)
    rw [hL, List.take_succ_cons] at he
    injection he with he1 he2
    unfold fitAt
    by_cases hm : (log[i]?).map tm = some (tm e)
    · rw [if_pos hm]
      rw [Option.map_eq_some_iff] at hm
      obtain ⟨x, hx1, hx2⟩ := hm
      have h1 : log.take (i + 1) = L.take (i + 1) := cons_same h h' (t := tm e) ⟨by omega, x, by simpa using hx1, hx2⟩ ⟨by omega, L[i], by simp, by rw [he1]⟩
      have := fit_scan h h' es (i + 1) (by omega) he2 h1
      rw [show i + (e :: es).length = i + 1 + es.length by simp; omega]
      split at this
      · next heq => exact this
      · next k heq => exact ⟨by omega, this.2.1, this.2.2⟩
    · rw [if_neg hm]
      refine ⟨Nat.le_refl _, by simp, hi, fun e1 => hm ?_⟩
      have a1 : (log.take (i + 1))[i]? = log[i]? := by rw [List.getElem?_take, if_pos (by omega)]
      have a2 : (L.take (i + 1))[i]? = L[i]? := by rw [List.getElem?_take, if_pos (by omega)]
      rw [← a1, e1, a2, List.getElem?_eq_getElem (by omega), he1]
      rfl
theorem fit_is {LL : Int → List E} {log L : List E} (h : Cons tm LL log) (h' : Cons tm LL L) {i was : Int} {es : List E} (hi : 0 ≤ i) (hl : i.toNat + es.length ≤ L.length) (he : es = (L.drop i.toNat).take es.length) (hw : tmAt tm L i = some was) {last ch : Int} {log' : List E} (hf : fitP tm log i was es = some (last, ch, log')) :
    last = i + es.length ∧ (log'.length = log.length ∨ 0 < ch) ∧ ((log' = log ∧ log.take (i.toNat + es.length) = L.take (i.toNat + es.length)) ∨ (log' = L.take (i.toNat + es.length) ∧ log.take (i.toNat + es.length) ≠ L.take (i.toNat + es.length))) := by
  unfold fitP at hf
  split at hf
  · next hw1 =>
    have h0 : log.take i.toNat = L.take i.toNat := by
      rcases Nat.eq_zero_or_pos i.toNat with h0 | h0
      · rw [h0]; simp
      · rw [show i = ((i.toNat : Nat) : Int) by omega] at hw hw1
        exact cons_same h h' (tmK_at hw1 h0) (tmK_at hw h0)
    have hsc := fit_scan h h' es i.toNat hl he h0
    injection hf with hf
    split at hf
    · next heq =>
      rw [heq] at hsc
      injection hf with hf1 hf2
      injection hf2 with hf2 hf3
      subst hf1 hf2 hf3
      exact ⟨rfl, .inl rfl, .inl ⟨rfl, hsc⟩⟩
    · next k heq =>
      rw [heq] at hsc
      obtain ⟨k1, k2, k3, k4⟩ := hsc
      injection hf with hf1 hf2
      injection hf2 with hf2 hf3
      subst hf1 hf2 hf3
      refine ⟨rfl, .inr (by omega), .inr ⟨?_, fun e => k4 (take_le e (by omega))⟩⟩
      have e1 : es.drop (k - i.toNat) = (L.drop k).take (i.toNat + es.length - k) := by
        conv => lhs; rw [he]
        rw [List.drop_take, List.drop_drop, show i.toNat + (k - i.toNat) = k by omega]
        congr 1
        omega
      have : L.take (i.toNat + es.length) = L.take k ++ ((L.drop k).take (i.toNat + es.length - k)) := by
        rw [← List.take_append_drop k (L.take (i.toNat + es.length)), List.take_take, Nat.min_eq_left (by omega), List.drop_take]
      rw [k3, e1, this]
  · cases hf
end
end Go.Proofs.Ythfofnfkopnbhaa
