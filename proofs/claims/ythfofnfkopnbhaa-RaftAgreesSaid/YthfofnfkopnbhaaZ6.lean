/- raft, the plain law: a server is elected, and leads; its log grows. raft, the plain law: a server takes entries from a leader; what is commit is so everywhere; letters. raft, the plain law: what a peer does, in plain terms; the walk of the program tells these. -/
import Derived.Test.YthfofnfkopnbhaaZ5
namespace Go.Proofs.Ythfofnfkopnbhaa
set_option linter.unusedVariables false
set_option linter.unusedSimpArgs false
set_option linter.unusedSectionVars false

section
variable {E : Type} {tm : E → Int} {n : Int} {g : Gh E} {s : Int → Srv E}
theorem Cons.sorted {LL : Int → List E} {l : List E} (h : Cons tm LL l) (hs : ∀ t, (LL t).Pairwise fun a b => tm a ≤ tm b) : l.Pairwise fun a b => tm a ≤ tm b := by
  by_cases h0 : l = []
  · rw [h0]; exact List.Pairwise.nil
  · have h1 := (h.at_ (last_get h0)).1
    rw [List.take_length] at h1
    rw [h1]
    exact (hs _).sublist (List.take_sublist _ _)
theorem Cons.mem {LL : Int → List E} {l : List E} (h : Cons tm LL l) {e : E} (he : e ∈ l) : e ∈ LL (tm e) := by
  obtain ⟨i, hi, rfl⟩ := List.mem_iff_getElem.1 he
  have h1 := h i _ (List.getElem?_eq_getElem hi)
  have : l[i] ∈ l.take (i + 1) := by
    rw [List.mem_iff_getElem]
    exact ⟨i, by simp; omega, by simp⟩
  rw [h1] at this
  exact List.mem_of_mem_take this
theorem Cons.app {LL : Int → List E} {l : List E} {e : E} (h : Cons tm LL l) (he : LL (tm e) = l ++ [e]) : Cons tm LL (l ++ [e]) := by
  intro i x hx
  rcases Nat.lt_or_ge i l.length with h1 | h1
  · rw [List.getElem?_append_left h1] at hx
    rw [List.take_append_of_le_length (by omega)]
    exact h i x hx
  · have h2 := (List.getElem?_eq_some_iff.1 hx).1
    simp at h2
    obtain rfl : i = l.length := by omega
    simp at hx
    subst hx
    rw [he]
theorem Inv.vot (h : Inv tm n g s) {q t : Int} (hq : In n q) (hv : g.VT q t ≠ 0) : t ≤ (s q).T := by
  by_cases e : t ≤ (s q).T
  · exact e
  · exact absurd (h.vt0 q t hq (by omega)) hv
/-- Who stands, and is voted for by most, has all that may be commit. -/
theorem Inv.elect (h : Inv tm n g s) {q : Int} (hq : In n q) (hr : (s q).role = 2) (hm : Maj n fun p => p ∈ (s q).votes) {t : Int} {k : Nat} (ht : t < (s q).T) (hk : TmK tm (g.LL t) k t) : (s q).log.take k = (g.LL t).take k ∨ Dead n g s t k := by
  obtain ⟨c1, c2, c3, c4, c5⟩ := h.cand q hq hr
  have hvq : g.VT q (s q).T = q := by rw [h.vtc q hq]; exact c1
  by_cases hx : ∃ v, v ∈ (s q).votes ∧ k ≤ g.A v t
  · obtain ⟨v, hv, hA⟩ := hx
    obtain ⟨k1, k2⟩ := c5 v hv
    have hv0 : g.VT v (s q).T ≠ 0 := by rw [k2]; exact in_ne hq
    rcases h.i3 v (s q).T t k k1 hv0 ht hA hk with hp | hd
    · have hup := h.vup v (s q).T k1 hv0
      have hcv := h.cVL v (s q).T k1 hv0
      rw [k2, ← c3] at hup
      have hcc := h.clog q hq
      have hkv : TmK tm (g.VL v (s q).T) k t := hk.take hp (Nat.le_refl _)
      generalize g.VL v (s q).T = vl at *
      have hvn : vl ≠ [] := by rintro rfl; have := hkv.len; simp at this; omega
      have t1 : 1 ≤ t := by
        obtain ⟨e, he, het⟩ := hk.mem
        have := (h.tLL t e he).1
        omega
      -- the last entry of what the voter had is of a term from t on
      have hlast : t ≤ lastT tm vl := by
        obtain ⟨_, a, ha, hat⟩ := hkv
        obtain ⟨_, b, hb, hbt⟩ := last_get (tm := tm) hvn
        have := sorted_le (hcv.sorted h.sLL) ha hb (by have := (List.getElem?_eq_some_iff.1 ha).1; omega)
        omega
      have hcn : (s q).log ≠ [] := by
        rintro e0
        rw [e0] at hup
        rcases hup with hup | ⟨_, hup⟩
        · rw [lastT_nil] at hup; omega
        · exact hvn (List.eq_nil_of_length_eq_zero (Nat.le_zero.1 hup))
      obtain ⟨hc1, hc2⟩ := hcc.at_ (last_get hcn)
      rw [List.take_length] at hc1
      have hLu : TmK tm (g.LL (lastT tm (s q).log)) (s q).log.length (lastT tm (s q).log) := (last_get hcn).take (by rw [List.take_length]; exact hc1.symm) (Nat.le_refl _)
      rcases hup with hup | ⟨hup, hle⟩
      · have hu : g.el (lastT tm (s q).log) ≠ 0 := by
          intro e0
          rw [h.el0 _ e0] at hc2
          have := List.length_pos_iff.2 hcn
          simp at hc2
          exact hcn hc2
        rcases h.i1 (lastT tm (s q).log) t k hu (by omega) hk with hi | hd
        · have hkl : k ≤ (s q).log.length := by
            rcases Nat.lt_or_ge (s q).log.length k with hlt | hge
            · obtain ⟨_, a, ha, hat⟩ := hLu
              obtain ⟨_, b, hb, hbt⟩ := hk.take hi (Nat.le_refl _)
              have := sorted_le (h.sLL _) ha hb (by omega)
              omega
            · exact hge
          left
          rw [← hi]
          exact take_le (l := g.LL (lastT tm (s q).log)) (by rw [List.take_length]; exact hc1) hkl
        · exact .inr hd
      · obtain ⟨hv1, hv2⟩ := hcv.at_ (last_get hvn)
        rw [List.take_length, ← hup] at hv1
        have hkv2 := hkv.len.2
        left
        rw [← hp]
        exact (take_le (l := g.LL (lastT tm (s q).log)) (by rw [List.take_length]; exact hc1) (by omega)).trans (take_le (l := g.LL (lastT tm (s q).log)) (by rw [List.take_length]; exact hv1) hkv2).symm
    · exact .inr hd
  · right
    exact hm.mono fun p hp hv => by
      obtain ⟨k1, k2⟩ := c5 p hv
      have := h.vot k1 (t := (s q).T) (by rw [k2]; exact in_ne hq)
      have : ¬ k ≤ g.A p t := fun hA => hx ⟨p, hv, hA⟩
      omega
/-- The log of a term's leader has grown by an entry. -/
def lead (g : Gh E) (q T : Int) (l : List E) : Gh E :=
  { g with el := fun t => if t = T then q else g.el t, LL := fun t => if t = T then l else g.LL t, A := fun p t => if p = q ∧ t = T then l.length else g.A p t }
/-- Who leads, or comes to lead: all that is known of it. -/
structure Ld (tm : E → Int) (n : Int) (g : Gh E) (s : Int → Srv E) (q : Int) : Prop where
  one : g.el (s q).T = q ∨ g.el (s q).T = 0
  maj : Maj n fun p => g.VT p (s q).T = q
  pre : g.LL (s q).T <+: (s q).log
  cl : g.CL (s q).T q <+: (s q).log
  old : ∀ k, TmK tm (s q).log k (s q).T → TmK tm (g.LL (s q).T) k (s q).T
  all : ∀ t k, t < (s q).T → TmK tm (g.LL t) k t → (s q).log.take k = (g.LL t).take k ∨ Dead n g s t k
  vself : g.VT q (s q).T = q
  t1 : 1 ≤ (s q).T
theorem Inv.cself (h : Inv tm n g s) {t : Int} (ht : g.el t ≠ 0) : g.VT (g.el t) t = g.el t := by
  obtain ⟨h1, h2⟩ := h.elm t ht
  obtain ⟨p, hp, h3, -⟩ := h2.meet h2
  have := h.vself p t hp (by rw [h3]; exact ht)
  rwa [h3] at this
theorem Inv.leads (h : Inv tm n g s) {q : Int} (hq : In n q) (hr : (s q).role = 3) : Ld tm n g s q := by
  obtain ⟨h1, h2, h3, h4, h5⟩ := h.lead q hq hr
  have he : g.el (s q).T ≠ 0 := by rw [h1]; exact in_ne hq
  have hs := h.cself he
  rw [h1] at hs
  refine ⟨.inl h1, ?_, by rw [h2]; exact List.prefix_rfl, ?_, fun k hk => by rw [h2]; exact hk, fun t k ht hk => ?_, hs, (h.vin q _ hq (by rw [hs]; exact in_ne hq)).2⟩
  · have := (h.elm _ he).2
    rwa [h1] at this
  · have := h.elp _ he
    rwa [h1, h2] at this
  · have := h.i1 (s q).T t k he ht hk
    rwa [h2] at this
theorem Inv.wins (h : Inv tm n g s) {q : Int} (hq : In n q) (hr : (s q).role = 2) (hm : Maj n fun p => p ∈ (s q).votes) : Ld tm n g s q := by
  obtain ⟨c1, c2, c3, c4, c5⟩ := h.cand q hq hr
  have hvq : g.VT q (s q).T = q := by rw [h.vtc q hq]; exact c1
  have hmv : Maj n fun p => g.VT p (s q).T = q := hm.mono fun p _ hp => (c5 p hp).2
  have he : g.el (s q).T = 0 := by
    by_cases he : g.el (s q).T = 0
    · exact he
    · obtain ⟨p, hp, a, b⟩ := hmv.meet (h.elm _ he).2
      exact absurd (b.symm.trans a) c2
  have hL := h.el0 _ he
  refine ⟨.inr he, hmv, by rw [hL]; exact List.nil_prefix, by rw [c3]; exact List.prefix_rfl, fun k hk => ?_, fun t k ht hk => h.elect hq hr hm ht hk, hvq, (h.vin q _ hq (by rw [hvq]; exact in_ne hq)).2⟩
  have := ((h.clog q hq).at_ hk).2
  rw [hL] at this
  have := hk.1
  simp at *
  omega
theorem lead_le (h : Inv tm n g s) {q : Int} (hq : In n q) (hl : Ld tm n g s q) (e : E) : Le n g (lead g q (s q).T ((s q).log ++ [e])) := by
  refine ⟨fun t => ?_, fun p t hp => ?_, fun _ _ _ _ => rfl, fun t ht => ?_, fun _ _ _ _ => rfl⟩
  · show _ <+: (if t = (s q).T then _ else _)
    split
    · next e1 => rw [e1]; exact hl.pre.trans (List.prefix_append ..)
    · exact List.prefix_rfl
  · show _ ≤ (if p = q ∧ t = (s q).T then _ else _)
    split
    · next e1 =>
      obtain ⟨rfl, rfl⟩ := e1
      have := h.aLL p (s p).T hp
      have := hl.pre.length_le
      simp
      omega
    · exact Nat.le_refl _
  · show (if t = (s q).T then q else _) = _
    split
    · next e1 =>
      rw [e1] at ht ⊢
      rcases hl.one with h1 | h1
      · exact h1.symm
      · exact absurd h1 ht
    · rfl
theorem Inv.grow (h : Inv tm n g s) {q : Int} (hq : In n q) (hl : Ld tm n g s q) (e : E) (he : tm e = (s q).T) (v : Srv E) (hT : v.T = (s q).T) (hV : v.V = (s q).V) (hlog : v.log = (s q).log ++ [e]) (hr : v.role = 3) (hC : v.C = (s q).C)
    (hmat : ∀ p, In n p → p ≠ q → 0 ≤ v.mat p ∧ v.mat p ≤ (g.A p v.T : Int)) (hnext : ∀ p, In n p → p ≠ q → 1 ≤ v.next p ∧ v.next p ≤ (v.log.length : Int) + 1) : Inv tm n (Go.Proofs.Ythfofnfkopnbhaa.lead g q (s q).T ((s q).log ++ [e])) (upd s q v) := by
  have hle := lead_le h hq hl e
  have eT : ∀ p, (upd s q v p).T = (s p).T := fun p => upd_at s q v (fun x y => x.T = y.T) hT p rfl
  have eV : ∀ p, (upd s q v p).V = (s p).V := fun p => upd_at s q v (fun x y => x.V = y.V) hV p rfl
  have elA : (Go.Proofs.Ythfofnfkopnbhaa.lead g q (s q).T ((s q).log ++ [e])).el (s q).T = q := by simp [Go.Proofs.Ythfofnfkopnbhaa.lead]
  have elB : ∀ t, t ≠ (s q).T → (Go.Proofs.Ythfofnfkopnbhaa.lead g q (s q).T ((s q).log ++ [e])).el t = g.el t := fun t ht => by simp [Go.Proofs.Ythfofnfkopnbhaa.lead, ht]
  have llA : (Go.Proofs.Ythfofnfkopnbhaa.lead g q (s q).T ((s q).log ++ [e])).LL (s q).T = (s q).log ++ [e] := by simp [Go.Proofs.Ythfofnfkopnbhaa.lead]
  have llB : ∀ t, t ≠ (s q).T → (Go.Proofs.Ythfofnfkopnbhaa.lead g q (s q).T ((s q).log ++ [e])).LL t = g.LL t := fun t ht => by simp [Go.Proofs.Ythfofnfkopnbhaa.lead, ht]
  have aA : (Go.Proofs.Ythfofnfkopnbhaa.lead g q (s q).T ((s q).log ++ [e])).A q (s q).T = (s q).log.length + 1 := by simp [Go.Proofs.Ythfofnfkopnbhaa.lead]
  have aB : ∀ p t, ¬ (p = q ∧ t = (s q).T) → (Go.Proofs.Ythfofnfkopnbhaa.lead g q (s q).T ((s q).log ++ [e])).A p t = g.A p t := fun p t ht => by simp only [Go.Proofs.Ythfofnfkopnbhaa.lead, if_neg ht]
  have vtA : (Go.Proofs.Ythfofnfkopnbhaa.lead g q (s q).T ((s q).log ++ [e])).VT = g.VT := rfl
  have vlA : (Go.Proofs.Ythfofnfkopnbhaa.lead g q (s q).T ((s q).log ++ [e])).VL = g.VL := rfl
  have clA : (Go.Proofs.Ythfofnfkopnbhaa.lead g q (s q).T ((s q).log ++ [e])).CL = g.CL := rfl
  generalize Go.Proofs.Ythfofnfkopnbhaa.lead g q (s q).T ((s q).log ++ [e]) = g' at *
  have hD : ∀ t k, Dead n g s t k → Dead n g' (upd s q v) t k := fun t k hd => hd.mono (fun p _ => by rw [eT]; exact Int.le_refl _) (fun p _ ht => by
    rw [aB p t (by rintro ⟨rfl, rfl⟩; omega)]
    exact Nat.le_refl _)
  have hcv : Cons tm g'.LL v.log := by
    rw [hlog]
    exact ((h.clog q hq).grow hle.ll).app (by rw [he]; exact llA)
  -- another one is elected in no term of this one's
  have oth : ∀ p, In n p → p ≠ q → g.el (s q).T ≠ p := by
    intro p hp hpq e1
    rcases hl.one with h1 | h1
    · exact hpq (e1.symm.trans h1)
    · rw [h1] at e1; exact in_ne hp e1.symm
  refine { t0 := ?_, vt0 := ?_, vtc := ?_, vin := ?_, vself := ?_, vup := ?_, elm := ?_, elp := ?_, el0 := ?_, cand := ?_, lead := ?_, clog := ?_, cLL := ?_, cCL := ?_, cVL := ?_, tLL := ?_, sLL := ?_, tlog := ?_, tCL := ?_, aLL := ?_, a0 := ?_, i1 := ?_, i2 := ?_, i3 := ?_, com := ?_ }
  · intro p hp; rw [eT]; exact h.t0 p hp
  · intro p t hp; rw [eT, vtA]; exact h.vt0 p t hp
  · intro p hp; rw [eT, eV, vtA]; exact h.vtc p hp
  · rw [vtA]; exact h.vin
  · rw [vtA]; exact h.vself
  · rw [vtA, vlA, clA]; exact h.vup
  · intro t ht
    by_cases e1 : t = (s q).T
    · rw [e1, elA, vtA]; exact ⟨hq, hl.maj⟩
    · rw [elB t e1] at ht ⊢; rw [vtA]; exact h.elm t ht
  · intro t ht
    by_cases e1 : t = (s q).T
    · rw [e1, elA, llA, clA]; exact hl.cl.trans (List.prefix_append ..)
    · rw [elB t e1] at ht ⊢; rw [llB t e1, clA]; exact h.elp t ht
  · intro t ht
    by_cases e1 : t = (s q).T
    · rw [e1, elA] at ht; exact absurd ht (in_ne hq)
    · rw [elB t e1] at ht; rw [llB t e1]; exact h.el0 t ht
  · intro p hp hr2
    by_cases e1 : p = q
    · subst e1; rw [upd_same, hr] at hr2; cases hr2
    · rw [upd_ne s v e1] at hr2 ⊢
      obtain ⟨h1, h2, h3⟩ := h.cand p hp hr2
      rw [vtA, clA]
      refine ⟨h1, ?_, h3⟩
      by_cases e2 : (s p).T = (s q).T
      · rw [e2, elA]; exact fun e3 => e1 e3.symm
      · rw [elB _ e2]; exact h2
  · intro p hp hr2
    by_cases e1 : p = q
    · subst e1
      rw [upd_same, hT, elA, llA, aA]
      refine ⟨rfl, hlog.symm, by rw [hlog]; simp, fun x hx hxp => ?_, hnext⟩
      obtain ⟨k1, k2⟩ := hmat x hx hxp
      rw [hT] at k2
      exact ⟨k1, by rw [aB x _ (fun a => hxp a.1)]; exact k2⟩
    · rw [upd_ne s v e1] at hr2 ⊢
      obtain ⟨h1, h2, h3, h4, h5⟩ := h.lead p hp hr2
      have e2 : (s p).T ≠ (s q).T := fun e2 => oth p hp e1 (by rw [← e2]; exact h1)
      rw [elB _ e2, llB _ e2, aB _ _ (fun a => e1 a.1)]
      exact ⟨h1, h2, h3, fun x hx hxp => ⟨(h4 x hx hxp).1, by have := (h4 x hx hxp).2; have := hle.a x (s p).T hx; omega⟩, h5⟩
  · intro p hp
    by_cases e1 : p = q
    · subst e1; rw [upd_same]; exact hcv
    · rw [upd_ne s v e1]; exact (h.clog p hp).grow hle.ll
  · intro t
    by_cases e1 : t = (s q).T
    · rw [e1, llA, ← hlog]; exact hcv
    · rw [llB t e1]; exact (h.cLL t).grow hle.ll
  · intro p t hp hv; rw [clA]; exact (h.cCL p t hp (by rw [vtA] at hv; exact hv)).grow hle.ll
  · intro p t hp hv; rw [vlA]; exact (h.cVL p t hp (by rw [vtA] at hv; exact hv)).grow hle.ll
  · intro t x hx
    by_cases e1 : t = (s q).T
    · rw [e1, llA, List.mem_append, List.mem_singleton] at hx
      rw [e1]
      rcases hx with hx | rfl
      · exact ⟨(h.tLL _ x ((h.clog q hq).mem hx)).1, h.tlog q x hq hx⟩
      · rw [he]; exact ⟨hl.t1, Int.le_refl _⟩
    · rw [llB t e1] at hx; exact h.tLL t x hx
  · intro t
    by_cases e1 : t = (s q).T
    · rw [e1, llA, List.pairwise_append]
      refine ⟨(h.clog q hq).sorted h.sLL, List.pairwise_singleton _ _, fun a ha b hb => ?_⟩
      simp at hb
      rw [hb, he]
      exact h.tlog q a hq ha
    · rw [llB t e1]; exact h.sLL t
  · intro p x hp hx
    rw [eT]
    by_cases e1 : p = q
    · subst e1
      rw [upd_same, hlog, List.mem_append, List.mem_singleton] at hx
      rcases hx with hx | rfl
      · exact h.tlog p x hp hx
      · omega
    · rw [upd_ne s v e1] at hx; exact h.tlog p x hp hx
  · intro p t x hp hv hx; rw [vtA] at hv; rw [clA] at hx; exact h.tCL p t x hp hv hx
  · intro p t hp
    by_cases e1 : p = q ∧ t = (s q).T
    · obtain ⟨rfl, rfl⟩ := e1; rw [aA, llA]; simp
    · rw [aB p t e1]; exact Nat.le_trans (h.aLL p t hp) (hle.ll t).length_le
  · intro p t hp ht
    rw [eT] at ht
    rw [aB p t (by rintro ⟨rfl, rfl⟩; omega)]
    exact h.a0 p t hp ht
  · intro t' t k ht' htt hk
    by_cases e1 : t = (s q).T
    · subst e1
      have e2 : t' ≠ (s q).T := by omega
      rw [elB t' e2] at ht'
      rw [llB t' e2]
      rcases Nat.lt_or_ge (s q).log.length k with hlt | hge
      · right
        refine (h.elm t' ht').2.mono fun p hp hv => ?_
        have h1 := h.vot hp (t := t') (by rw [hv]; exact ht')
        rw [eT]
        have h2 : p ≠ q := by rintro rfl; omega
        rw [aB p _ (fun a => h2 a.1)]
        have h3 := h.aLL p (s q).T hp
        have h4 := hl.pre.length_le
        omega
      · rw [llA] at hk ⊢
        have hk2 : TmK tm (s q).log k (s q).T := hk.take (List.take_append_of_le_length hge).symm (Nat.le_refl _)
        have hk3 := hl.old k hk2
        rw [List.take_append_of_le_length hge, pre_take hl.pre hk3.len.2]
        exact (h.i1 t' _ k ht' htt hk3).imp id (hD _ k)
    · rw [llB t e1] at hk ⊢
      by_cases e2 : t' = (s q).T
      · subst e2
        rw [llA]
        rcases hl.all t k htt hk with h1 | h1
        · left
          rw [List.take_append_of_le_length (take_len h1 hk.len.2)]
          exact h1
        · exact .inr (hD t k h1)
      · rw [elB t' e2] at ht'; rw [llB t' e2]; exact (h.i1 t' t k ht' htt hk).imp id (hD t k)
  · intro p t k hp ha hk
    by_cases e1 : p = q
    · subst e1
      rw [upd_same]
      by_cases e2 : t = (s p).T
      · subst e2; left; rw [hlog, llA]
      · rw [llB t e2] at hk ⊢
        rw [aB p t (fun a => e2 a.2)] at ha
        rcases h.i2 p t k hp ha hk with h1 | h1
        · left; rw [hlog, List.take_append_of_le_length (take_len h1 hk.len.2)]; exact h1
        · exact .inr (hD t k h1)
    · rw [upd_ne s v e1]
      rw [aB p t (fun a => e1 a.1)] at ha
      have h2 := pre_take (hle.ll t) (Nat.le_trans ha (h.aLL p t hp))
      rw [h2]
      exact (h.i2 p t k hp ha (hk.take h2.symm (Nat.le_refl _))).imp id (hD t k)
  · intro p t' t k hp hv htt ha hk
    rw [vtA] at hv
    rw [vlA]
    have e1 : ¬ (p = q ∧ t = (s q).T) := by
      rintro ⟨rfl, rfl⟩
      have := h.vot hp hv
      omega
    rw [aB p t e1] at ha
    have h2 := pre_take (hle.ll t) (Nat.le_trans ha (h.aLL p t hp))
    rw [h2]
    exact (h.i3 p t' t k hp hv htt ha (hk.take h2.symm (Nat.le_refl _))).imp id (hD t k)
  · intro p hp
    by_cases e1 : p = q
    · subst e1; rw [upd_same, hT, hC, hlog]; exact ((h.com p hp).pre (List.prefix_append ..)).le hle
    · rw [upd_ne s v e1]; exact (h.com p hp).le hle
end
end Go.Proofs.Ythfofnfkopnbhaa
namespace Go.Proofs.Ythfofnfkopnbhaa
set_option linter.unusedVariables false
set_option linter.unusedSimpArgs false
set_option linter.unusedSectionVars false

section
variable {E : Type} {tm : E → Int} {n : Int} {g : Gh E} {s : Int → Srv E}
/-- A server has a leader's log up to m. -/
def ack (g : Gh E) (q T : Int) (m : Nat) : Gh E := { g with A := fun p t => if p = q ∧ t = T then max (g.A p t) m else g.A p t }
theorem ack_le (g : Gh E) (q T : Int) (m : Nat) : Le n g (ack g q T m) := by
  refine ⟨fun t => List.prefix_rfl, fun p t hp => ?_, fun _ _ _ _ => rfl, fun _ _ => rfl, fun _ _ _ _ => rfl⟩
  show _ ≤ (if p = q ∧ t = T then _ else _)
  split
  · exact Nat.le_max_left ..
  · exact Nat.le_refl _
theorem Inv.fit (h : Inv tm n g s) {q : Int} (hq : In n q) (hel : g.el (s q).T ≠ 0) (hr0 : (s q).role ≠ 3) (m : Nat) (hm : m ≤ (g.LL (s q).T).length) (v : Srv E) (hT : v.T = (s q).T) (hV : v.V = (s q).V) (hr : v.role = 1) (hC : v.C = (s q).C)
    (hlog : (v.log = (s q).log ∧ (s q).log.take m = (g.LL (s q).T).take m) ∨ (v.log = (g.LL (s q).T).take m ∧ (s q).log.take m ≠ (g.LL (s q).T).take m)) : Inv tm n (ack g q (s q).T m) (upd s q v) := by
  have hle : Le n g (ack g q (s q).T m) := ack_le g q (s q).T m
  have eT : ∀ p, (upd s q v p).T = (s p).T := fun p => upd_at s q v (fun x y => x.T = y.T) hT p rfl
  have eV : ∀ p, (upd s q v p).V = (s p).V := fun p => upd_at s q v (fun x y => x.V = y.V) hV p rfl
  have aA : (ack g q (s q).T m).A q (s q).T = max (g.A q (s q).T) m := by simp [ack]
  have aB : ∀ p t, ¬ (p = q ∧ t = (s q).T) → (ack g q (s q).T m).A p t = g.A p t := fun p t ht => by simp only [ack, if_neg ht]
  have elA : (ack g q (s q).T m).el = g.el := rfl
  have llA : (ack g q (s q).T m).LL = g.LL := rfl
  have vtA : (ack g q (s q).T m).VT = g.VT := rfl
  have vlA : (ack g q (s q).T m).VL = g.VL := rfl
  have clA : (ack g q (s q).T m).CL = g.CL := rfl
  generalize ack g q (s q).T m = g' at *
  have hD : ∀ t k, Dead n g s t k → Dead n g' (upd s q v) t k := fun t k hd => hd.mono (fun p _ => by rw [eT]; exact Int.le_refl _) (fun p _ ht => by
    rw [aB p t (by rintro ⟨rfl, rfl⟩; omega)]
    exact Nat.le_refl _)
  -- what was as the leaders of terms up to this one have it stays so
  have keep : ∀ c, (s q).log.take c = (g.LL (s q).T).take c → v.log.take c = (g.LL (s q).T).take c ∧ (c ≤ (s q).log.length → c ≤ v.log.length) := by
    intro c hc
    rcases hlog with ⟨h1, h2⟩ | ⟨h1, h2⟩
    · rw [h1]; exact ⟨hc, id⟩
    · have hcm : c ≤ m := by
        rcases Nat.lt_or_ge m c with h3 | h3
        · exact absurd (take_le hc (by omega)) h2
        · exact h3
      rw [h1, List.take_take, Nat.min_eq_left hcm]
      exact ⟨rfl, fun h3 => by rw [List.length_take]; omega⟩
  have hcv : Cons tm g.LL v.log := by
    rcases hlog with ⟨h1, h2⟩ | ⟨h1, h2⟩
    · rw [h1]; exact h.clog q hq
    · rw [h1]; exact (h.cLL _).take _
  have hm2 : v.log.take m = (g.LL (s q).T).take m := by
    rcases hlog with ⟨h1, h2⟩ | ⟨h1, h2⟩
    · rw [h1]; exact h2
    · rw [h1, List.take_take, Nat.min_self]
  refine { t0 := ?_, vt0 := ?_, vtc := ?_, vin := ?_, vself := ?_, vup := ?_, elm := ?_, elp := ?_, el0 := ?_, cand := ?_, lead := ?_, clog := ?_, cLL := ?_, cCL := ?_, cVL := ?_, tLL := ?_, sLL := ?_, tlog := ?_, tCL := ?_, aLL := ?_, a0 := ?_, i1 := ?_, i2 := ?_, i3 := ?_, com := ?_ }
  · intro p hp; rw [eT]; exact h.t0 p hp
  · intro p t hp; rw [eT, vtA]; exact h.vt0 p t hp
  · intro p hp; rw [eT, eV, vtA]; exact h.vtc p hp
  · rw [vtA]; exact h.vin
  · rw [vtA]; exact h.vself
  · rw [vtA, vlA, clA]; exact h.vup
  · rw [elA, vtA]; exact h.elm
  · rw [elA, clA, llA]; exact h.elp
  · rw [elA, llA]; exact h.el0
  · intro p hp hr2
    by_cases e1 : p = q
    · subst e1; rw [upd_same, hr] at hr2; cases hr2
    · rw [upd_ne s v e1] at hr2 ⊢; rw [elA, clA, vtA]; exact h.cand p hp hr2
  · intro p hp hr2
    by_cases e1 : p = q
    · subst e1; rw [upd_same, hr] at hr2; cases hr2
    · rw [upd_ne s v e1] at hr2 ⊢
      obtain ⟨h1, h2, h3, h4, h5⟩ := h.lead p hp hr2
      rw [elA, llA, aB p _ (fun a => e1 a.1)]
      exact ⟨h1, h2, h3, fun x hx hxp => ⟨(h4 x hx hxp).1, by have := (h4 x hx hxp).2; have := hle.a x (s p).T hx; omega⟩, h5⟩
  · intro p hp
    rw [llA]
    by_cases e1 : p = q
    · subst e1; rw [upd_same]; exact hcv
    · rw [upd_ne s v e1]; exact h.clog p hp
  · rw [llA]; exact h.cLL
  · rw [llA, vtA, clA]; exact h.cCL
  · rw [llA, vtA, vlA]; exact h.cVL
  · rw [llA]; exact h.tLL
  · rw [llA]; exact h.sLL
  · intro p x hp hx
    rw [eT]
    by_cases e1 : p = q
    · subst e1
      rw [upd_same] at hx
      rcases hlog with ⟨h1, h2⟩ | ⟨h1, h2⟩
      · rw [h1] at hx; exact h.tlog p x hp hx
      · rw [h1] at hx; exact (h.tLL _ x (List.mem_of_mem_take hx)).2
    · rw [upd_ne s v e1] at hx; exact h.tlog p x hp hx
  · rw [vtA, clA]; exact h.tCL
  · intro p t hp
    rw [llA]
    by_cases e1 : p = q ∧ t = (s q).T
    · obtain ⟨rfl, rfl⟩ := e1; rw [aA]; have := h.aLL p (s p).T hp; omega
    · rw [aB p t e1]; exact h.aLL p t hp
  · intro p t hp ht
    rw [eT] at ht
    rw [aB p t (by rintro ⟨rfl, rfl⟩; omega)]
    exact h.a0 p t hp ht
  · intro t' t k ht' htt hk
    rw [llA] at *
    exact (h.i1 t' t k (by rw [elA] at ht'; exact ht') htt hk).imp id (hD t k)
  · intro p t k hp ha hk
    rw [llA] at *
    by_cases e1 : p = q
    · subst e1
      rw [upd_same]
      by_cases e2 : t = (s p).T
      · subst e2
        rw [aA] at ha
        rcases Nat.lt_or_ge m k with h1 | h1
        · rcases h.i2 p _ k hp (by omega) hk with h2 | h2
          · exact .inl (keep k h2).1
          · exact .inr (hD _ k h2)
        · exact .inl (take_le hm2 h1)
      · rw [aB p t (fun a => e2 a.2)] at ha
        rcases h.i2 p t k hp ha hk with h1 | h1
        · have ht : t < (s p).T := by
            rcases Int.lt_trichotomy t (s p).T with h2 | h2 | h2
            · exact h2
            · exact absurd h2 e2
            · have := h.a0 p t hp h2; have := hk.len.1; omega
          rcases h.i1 _ t k hel ht hk with h2 | h2
          · left
            rw [← h2]
            exact (keep k (h1.trans h2.symm)).1
          · exact .inr (hD t k h2)
        · exact .inr (hD t k h1)
    · rw [upd_ne s v e1]
      rw [aB p t (fun a => e1 a.1)] at ha
      exact (h.i2 p t k hp ha hk).imp id (hD t k)
  · intro p t' t k hp hv htt ha hk
    rw [llA] at *
    rw [vtA] at hv
    rw [vlA]
    have e1 : ¬ (p = q ∧ t = (s q).T) := by
      rintro ⟨rfl, rfl⟩
      have := h.vot hp hv
      omega
    rw [aB p t e1] at ha
    exact (h.i3 p t' t k hp hv htt ha hk).imp id (hD t k)
  · intro p hp
    by_cases e1 : p = q
    · subst e1
      rw [upd_same, hT, hC]
      rcases h.com p hp with h0 | ⟨t, k, h1, h2, h3, h4, h5⟩
      · exact .inl h0
      · have h6 : (s p).log.take (s p).C = (g.LL (s p).T).take (s p).C := by
          rcases Int.lt_or_eq_of_le h1 with h7 | h7
          · rcases h.i1 _ t k hel h7 h2.1 with h8 | h8
            · rw [h5]; exact (take_le h8 h3).symm
            · exact absurd h8 (fun h8 => h2.not_dead h8)
          · rw [← h7]; exact h5
        obtain ⟨k1, k2⟩ := keep _ h6
        refine .inr ⟨t, k, h1, h2.le hle, h3, k2 h4, ?_⟩
        rw [k1, ← h6, h5, llA]
    · rw [upd_ne s v e1]; exact (h.com p hp).le hle
/-- What is commit is the same everywhere. -/
theorem Inv.agree (h : Inv tm n g s) {l l' : List E} {T T' : Int} {c c' : Nat} (hc : CC tm n g l T c) (hc' : CC tm n g l' T' c') (hcc : c ≤ c') : l.take c = l'.take c := by
  rcases hc with rfl | ⟨t, k, h1, h2, h3, h4, h5⟩
  · simp
  · rcases hc' with rfl | ⟨t', k', k1, k2, k3, k4, k5⟩
    · obtain rfl : c = 0 := by omega
      simp
    · rw [h5, take_le (l := g.LL t') k5 hcc]
      have el_of : ∀ {t : Int} {k : Nat}, TmK tm (g.LL t) k t → g.el t ≠ 0 := by
        intro t k hk e0
        have := hk.len
        rw [h.el0 t e0] at this
        simp at this
        omega
      rcases Int.lt_trichotomy t t' with e1 | e1 | e1
      · rcases h.i1 t' t k (el_of k2.1) e1 h2.1 with h6 | h6
        · exact (take_le h6 h3).symm
        · exact absurd h6 (fun h6 => h2.not_dead h6)
      · rw [e1]
      · rcases h.i1 t t' k' (el_of h2.1) e1 k2.1 with h6 | h6
        · exact take_le h6 (by omega)
        · exact absurd h6 (fun h6 => k2.not_dead h6)
/-- A leader finds an entry of its term at most servers. -/
theorem Inv.settle (h : Inv tm n g s) {q : Int} (hq : In n q) (hr : (s q).role = 3) {at_ : Nat} (hk : TmK tm (s q).log at_ (s q).T) (hm : Maj n fun p => p = q ∨ (at_ : Int) ≤ (s q).mat p) : CC tm n g (s q).log (s q).T at_ := by
  obtain ⟨h1, h2, h3, h4, h5⟩ := h.lead q hq hr
  refine .inr ⟨(s q).T, at_, Int.le_refl _, ⟨by rw [h2]; exact hk, hm.mono fun p hp hx => ?_⟩, Nat.le_refl _, hk.len.2, by rw [h2]⟩
  by_cases e1 : p = q
  · subst e1; rw [h3]; exact hk.len.2
  · rcases hx with hx | hx
    · exact absurd hx e1
    · have := (h4 p hp e1).2; omega
/-- A letter. -/
structure Lt (E : Type) where
  kind : Int
  src : Int
  dst : Int
  term : Int
  idx : Int
  was : Int
  ok : Bool
  com : Int
  ents : List E
/-- What a letter claims is so. -/
structure LtOk (tm : E → Int) (n : Int) (g : Gh E) (l : Lt E) : Prop where
  src : In n l.src
  dst : In n l.dst
  ask : l.kind = 1 → g.VT l.src l.term = l.src ∧ l.idx = ((g.CL l.term l.src).length : Int) ∧ l.was = lastT tm (g.CL l.term l.src)
  vote : l.kind = 2 → l.ok = true → g.VT l.src l.term = l.dst
  app : l.kind = 3 → g.el l.term = l.src ∧ 0 ≤ l.idx ∧ l.idx.toNat + l.ents.length ≤ (g.LL l.term).length ∧ l.ents = ((g.LL l.term).drop l.idx.toNat).take l.ents.length ∧ tmAt tm (g.LL l.term) l.idx = some l.was ∧ (0 ≤ l.com ∧ CC tm n g (g.LL l.term) l.term l.com.toNat)
  fed : l.kind = 4 → l.ok = true → 0 ≤ l.idx ∧ l.idx ≤ (g.A l.src l.term : Int)
theorem tmAt_pre {l l' : List E} (hp : l <+: l') {i : Int} {x : Int} (h : tmAt tm l i = some x) : tmAt tm l' i = some x := by
  unfold tmAt at h ⊢
  split at h
  · next e => rw [if_pos e]; exact h
  · next e =>
    rw [if_neg e]
    split at h
    · cases h
    · next e2 =>
      rw [if_neg e2]
      obtain ⟨r, rfl⟩ := hp
      rw [Option.map_eq_some_iff] at h ⊢
      obtain ⟨a, h1, h2⟩ := h
      exact ⟨a, by rw [List.getElem?_append_left (List.getElem?_eq_some_iff.1 h1).1]; exact h1, h2⟩
theorem LtOk.le {g' : Gh E} (hle : Le n g g') {l : Lt E} (h : LtOk tm n g l) : LtOk tm n g' l := by
  refine ⟨h.src, h.dst, fun hk => ?_, fun hk ho => ?_, fun hk => ?_, fun hk ho => ?_⟩
  · obtain ⟨h1, h2, h3⟩ := h.ask hk
    rw [hle.cl _ _ h.src h1, hle.vt _ _ h.src (by rw [h1]; exact in_ne h.src)]
    exact ⟨h1, h2, h3⟩
  · have h1 := h.vote hk ho
    rw [hle.vt _ _ h.src (by rw [h1]; exact in_ne h.dst)]
    exact h1
  · obtain ⟨h1, h2, h3, h4, h5, h6, h7⟩ := h.app hk
    have hp := hle.ll l.term
    rw [hle.el _ (by rw [h1]; exact in_ne h.src)]
    refine ⟨h1, h2, Nat.le_trans h3 hp.length_le, ?_, tmAt_pre hp h5, h6, (h7.le hle).pre hp⟩
    obtain ⟨r, hr⟩ := hp
    rw [← hr, List.drop_append_of_le_length (by omega), List.take_append_of_le_length (by rw [List.length_drop]; omega)]
    exact h4
  · obtain ⟨h1, h2⟩ := h.fed hk ho
    exact ⟨h1, by have := hle.a l.src l.term h.src; omega⟩
end
end Go.Proofs.Ythfofnfkopnbhaa
namespace Go.Proofs.Ythfofnfkopnbhaa
set_option linter.unusedVariables false
set_option linter.unusedSimpArgs false
set_option linter.unusedSectionVars false

section
variable {E : Type} (tm : E → Int)
/-- A peer. -/
structure Pr (E : Type) where
  T : Int
  V : Int
  C : Int
  log : List E
  role : Int
  leader : Int
  waited : Int
  limit : Int
  votes : List Int
  next : Int → Int
  mat : Int → Int
/-- A call under way: the peer, from where on its log is other, letters. -/
structure Cs (E : Type) where
  p : Pr E
  frm : Int
  out : List (Lt E)
/-- A peer as the law of agreement sees it. -/
def Pr.sv (p : Pr E) : Srv E := ⟨p.T, p.V, p.C.toNat, p.log, p.role, p.votes, p.next, p.mat⟩
def setF (f : Int → Int) (k v : Int) : Int → Int := fun x => if x = k then v else f x
def lt0 (kind : Int) : Lt E := ⟨kind, 0, 0, 0, 0, 0, false, 0, []⟩
def sendP (id : Int) (c : Cs E) (to : Int) (l : Lt E) : Cs E := { c with out := c.out ++ [{ l with src := id, dst := to, term := c.p.T }] }
def changedP (c : Cs E) (i : Int) : Cs E := if 0 < i ∧ (c.frm = 0 ∨ i < c.frm) then { c with frm := i } else c
/-- Entries from an index on. -/
def fromP (l : List E) (i : Int) (most : Nat) : List E := if 1 ≤ i ∧ i ≤ (l.length : Int) then (l.drop (i - 1).toNat).take most else []
def feedP (id : Int) (c : Cs E) (s : Int) : Cs E :=
  let es := fromP c.p.log (c.p.next s) 4
  let c' := sendP id c s { (lt0 3 : Lt E) with idx := c.p.next s - 1, was := (tmAt tm c.p.log (c.p.next s - 1)).getD 0, ents := es, com := c.p.C }
  { c' with p := { c'.p with next := setF c'.p.next s (c'.p.next s + es.length) } }
/-- The other servers, from s on. -/
def others (n id : Int) : List Int := ((List.range n.toNat).map fun (k : Nat) => (k : Int) + 1).filter fun s => decide (s ≠ id)
/-- What most have: the number at the middle of the sorted ones. -/
def medP (n : Int) (l : List Int) : Int := (l.mergeSort (fun a b => decide (a ≤ b))).getD ((n - 1) / 2).toNat 0
def settleP (n id : Int) (c : Cs E) : Cs E :=
  let at_ := medP n ((c.p.log.length : Int) :: (others n id).map c.p.mat)
  if c.p.C < at_ ∧ (tmAt tm c.p.log at_).getD 0 = c.p.T then { c with p := { c.p with C := at_ } } else c
def putP (c : Cs E) (e : E) : Cs E := changedP { c with p := { c.p with log := c.p.log ++ [e] } } ((c.p.log.length : Int) + 1)
variable (noop : Int → E)
def winP (n id : Int) (c : Cs E) : Cs E :=
  if n / 2 < (c.p.votes.length : Int) then
    let c1 : Cs E := { c with p := { c.p with role := 3, leader := id, next := fun _ => (c.p.log.length : Int) + 1, mat := fun _ => 0 } }
    let c2 := putP c1 (noop c.p.T)
    settleP tm n id ((others n id).foldl (feedP tm id) c2)
  else c
def standP (n id : Int) (draw : Int) (c : Cs E) : Cs E :=
  let c1 : Cs E := { c with p := { c.p with limit := 10 + ((draw.tmod 10) + 10).tmod 10, T := c.p.T + 1, V := id, role := 2, leader := 0, waited := 0, votes := [id] } }
  let c2 := (others n id).foldl (fun c s => sendP id c s { (lt0 1 : Lt E) with idx := (c1.p.log.length : Int), was := lastT tm c1.p.log }) c1
  winP tm noop n id c2
def tickP (n id : Int) (draw : Int) (c : Cs E) : Cs E :=
  if c.p.role = 3 then (others n id).foldl (feedP tm id) c
  else
    let c1 : Cs E := { c with p := { c.p with waited := c.p.waited + 1 } }
    if c1.p.limit ≤ c1.p.waited ∧ c1.p.T < 1099511627776 then standP tm noop n id draw c1 else c1
def askedP (id : Int) (l : Lt E) (c : Cs E) : Cs E :=
  let newer := decide (lastT tm c.p.log < l.was) || (decide (l.was = lastT tm c.p.log) && decide ((c.p.log.length : Int) ≤ l.idx))
  let yes := decide (c.p.role = 1) && (decide (c.p.V = 0) || decide (c.p.V = l.src)) && newer
  let c1 : Cs E := if yes then { c with p := { c.p with V := l.src, waited := 0 } } else c
  sendP id c1 l.src { (lt0 2 : Lt E) with ok := yes }
def addV (v : Int) (l : List Int) : List Int := if v ∈ l then l else l ++ [v]
def votedP (n id : Int) (l : Lt E) (c : Cs E) : Cs E :=
  if c.p.role = 2 ∧ l.ok = true then winP tm noop n id { c with p := { c.p with votes := addV l.src c.p.votes } } else c
/-- Fitting entries: the first place at which the log is other; none: at no place. -/
def fitAt (log : List E) (i : Nat) : List E → Option Nat
  | [] => none
  | e :: es => if (log[i]?).map tm = some (tm e) then fitAt log (i + 1) es else some i
/-- (last, changed, the log); none: the log has not the term there. -/
def fitP (log : List E) (i was : Int) (es : List E) : Option (Int × Int × List E) :=
  if tmAt tm log i = some was then
    some (match fitAt tm log i.toNat es with
      | none => (i + es.length, 0, log)
      | some k => (i + es.length, (k : Int) + 1, log.take k ++ es.drop (k - i.toNat)))
  else none
def fedP (id : Int) (l : Lt E) (c : Cs E) : Cs E :=
  if c.p.role = 3 then c else
  let c1 : Cs E := { c with p := { c.p with role := 1, leader := l.src, waited := 0 } }
  match fitP tm c1.p.log l.idx l.was l.ents with
  | none => sendP id c1 l.src { (lt0 4 : Lt E) with ok := false, idx := min (c1.p.log.length : Int) (l.idx - 1) }
  | some (last, ch, log') =>
    let c2 := changedP { c1 with p := { c1.p with log := log' } } ch
    sendP id { c2 with p := { c2.p with C := max c2.p.C (min l.com last) } } l.src { (lt0 4 : Lt E) with ok := true, idx := last }
def ateP (n id : Int) (l : Lt E) (c : Cs E) : Cs E :=
  if c.p.role ≠ 3 then c
  else if l.ok = true ∧ c.p.mat l.src < l.idx ∧ l.idx ≤ (c.p.log.length : Int) then
    let c1 := settleP tm n id { c with p := { c.p with mat := setF c.p.mat l.src l.idx, next := setF c.p.next l.src (max (c.p.next l.src) (l.idx + 1)) } }
    if c1.p.next l.src ≤ (c1.p.log.length : Int) then feedP tm id c1 l.src else c1
  else if l.ok = false ∧ c.p.mat l.src ≤ l.idx ∧ l.idx < c.p.next l.src - 1 then
    feedP tm id { c with p := { c.p with next := setF c.p.next l.src (l.idx + 1) } } l.src
  else c
/-- A letter that came: right says whether it is one. -/
def letterP (n id : Int) (right : Bool) (l : Lt E) (c : Cs E) : Cs E :=
  if right = true ∧ 1 ≤ l.kind ∧ l.kind ≤ 4 ∧ l.dst = id ∧ l.src ≠ id ∧ 1 ≤ l.src ∧ l.src ≤ n then
    let c1 : Cs E := if c.p.T < l.term then { c with p := { c.p with T := l.term, V := 0, role := 1, leader := 0 } } else c
    if l.term = c1.p.T then
      if l.kind = 1 then askedP tm id l c1 else if l.kind = 2 then votedP tm noop n id l c1 else if l.kind = 3 then fedP tm id l c1 else ateP tm n id l c1
    else if l.kind = 1 then sendP id c1 l.src (lt0 2)
    else if l.kind = 3 then sendP id c1 l.src (lt0 4)
    else c1
  else c
def proposeP (n id : Int) (e : E) (c : Cs E) : Cs E := settleP tm n id (putP c e)
end
end Go.Proofs.Ythfofnfkopnbhaa
