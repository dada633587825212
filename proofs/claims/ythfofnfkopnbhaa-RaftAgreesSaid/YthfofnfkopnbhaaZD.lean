/- raft, the plain law: votes, what was waited, entries' bytes, how many letters. raft, the law's world: what holds of it from move to move. -/
import Derived.Test.YthfofnfkopnbhaaZ20
import Derived.Test.YthfofnfkopnbhaaZB
import Derived.Test.YthfofnfkopnbhaaZC
namespace Go.Proofs.Ythfofnfkopnbhaa
set_option linter.unusedVariables false
set_option linter.unusedSimpArgs false
set_option linter.unusedSectionVars false

section
variable {E : Type} {tm : E → Int} {n q : Int} {noop : Int → E}
/-- A call's small things: D is what is sure of each entry, K how many letters at most. -/
structure PX (D : E → Prop) (n M : Int) (K : Nat) (c : Cs E) : Prop where
  v : 0 ≤ c.p.V ∧ c.p.V ≤ n
  nd : c.p.votes.Nodup
  vin : ∀ v ∈ c.p.votes, 1 ≤ v ∧ v ≤ n
  w : 0 ≤ c.p.waited ∧ c.p.waited ≤ M
  mat : c.p.role = 3 → ∀ p, 0 ≤ c.p.mat p
  dlog : ∀ e ∈ c.p.log, D e
  dout : ∀ l ∈ c.out, ∀ e ∈ l.ents, D e
  len : c.out.length ≤ K
variable {D : E → Prop} {M : Int} {K : Nat} {c : Cs E}
theorem PX.mono (h : PX D n M K c) {M' : Int} {K' : Nat} (hM : M ≤ M') (hK : K ≤ K') : PX D n M' K' c := ⟨h.v, h.nd, h.vin, ⟨h.w.1, by have := h.w.2; omega⟩, h.mat, h.dlog, h.dout, by have := h.len; omega⟩
theorem PX.votes_len (h : PX D n M K c) (h7 : n ≤ 7) (h1 : 1 ≤ n) : c.p.votes.length ≤ 7 := by
  have := nodup_len n.toNat c.p.votes h.nd (fun v hv => by have := h.vin v hv; omega)
  omega
theorem others_le (n id : Int) : (others n id).length ≤ n.toNat := by
  unfold others
  refine Nat.le_trans (List.length_filter_le _ _) ?_
  simp
theorem px_send (h : PX D n M K c) (tt : Int) {l : Lt E} (he : ∀ e ∈ l.ents, D e) : PX D n M (K + 1) (sendP q c tt l) := by
  refine ⟨h.v, h.nd, h.vin, h.w, h.mat, h.dlog, fun x hx => ?_, ?_⟩
  · rw [sendP, List.mem_append, List.mem_singleton] at hx
    rcases hx with hx | rfl
    · exact h.dout x hx
    · exact he
  · have := h.len
    show (c.out ++ [_]).length ≤ K + 1
    rw [List.length_append]
    simp
    omega
theorem from_sub {l : List E} {i : Int} {k : Nat} : ∀ e ∈ fromP l i k, e ∈ l := by
  intro e he
  unfold fromP at he
  split at he
  · exact List.mem_of_mem_drop (List.mem_of_mem_take he)
  · cases he
theorem px_feed (h : PX D n M K c) (t : Int) : PX D n M (K + 1) (feedP tm q c t) := by
  have h1 : PX D n M (K + 1) (sendP q c t { (lt0 3 : Lt E) with idx := c.p.next t - 1, was := (tmAt tm c.p.log (c.p.next t - 1)).getD 0, ents := fromP c.p.log (c.p.next t) 4, com := c.p.C }) := px_send h t (fun e he => h.dlog e (from_sub e he))
  exact ⟨h1.v, h1.nd, h1.vin, h1.w, h1.mat, h1.dlog, h1.dout, h1.len⟩
theorem px_feeds : ∀ (l : List Int) (c : Cs E) (K : Nat), PX D n M K c → PX D n M (K + l.length) (l.foldl (feedP tm q) c)
  | [], c, K, h => h
  | t :: l, c, K, h => (px_feeds l (feedP tm q c t) (K + 1) (px_feed h t)).mono (Int.le_refl _) (by simp; omega)
theorem px_asks (f : Lt E) (he : ∀ e ∈ f.ents, D e) : ∀ (l : List Int) (c : Cs E) (K : Nat), PX D n M K c → PX D n M (K + l.length) (l.foldl (fun c s => sendP q c s f) c)
  | [], c, K, h => h
  | t :: l, c, K, h => (px_asks f he l _ (K + 1) (px_send h t he)).mono (Int.le_refl _) (by simp; omega)
theorem px_settle (h : PX D n M K c) : PX D n M K (settleP tm n q c) := by
  unfold settleP
  simp only
  split
  · exact ⟨h.v, h.nd, h.vin, h.w, h.mat, h.dlog, h.dout, h.len⟩
  · exact h
theorem px_changed (h : PX D n M K c) (i : Int) : PX D n M K (changedP c i) := by
  unfold changedP
  split
  · exact ⟨h.v, h.nd, h.vin, h.w, h.mat, h.dlog, h.dout, h.len⟩
  · exact h
theorem px_put (h : PX D n M K c) {e : E} (he : D e) : PX D n M K (putP c e) := by
  unfold putP
  refine px_changed (c := { c with p := { c.p with log := c.p.log ++ [e] } }) ⟨h.v, h.nd, h.vin, h.w, h.mat, fun x hx => ?_, h.dout, h.len⟩ _
  have hx : x ∈ c.p.log ++ [e] := hx
  rw [List.mem_append, List.mem_singleton] at hx
  rcases hx with hx | rfl
  · exact h.dlog x hx
  · exact he
theorem px_win (hno : ∀ t, D (noop t)) (h : PX D n M K c) : PX D n M (K + n.toNat) (winP tm noop n q c) := by
  unfold winP
  split
  · simp only
    have h1 : PX D n M K (putP { c with p := { c.p with role := 3, leader := q, next := fun _ => (c.p.log.length : Int) + 1, mat := fun _ => 0 } } (noop c.p.T)) :=
      px_put (c := { c with p := { c.p with role := 3, leader := q, next := fun _ => (c.p.log.length : Int) + 1, mat := fun _ => 0 } }) ⟨h.v, h.nd, h.vin, h.w, fun _ p => Int.le_refl _, h.dlog, h.dout, h.len⟩ (hno _)
    exact px_settle ((px_feeds _ _ _ h1).mono (Int.le_refl _) (by have := others_le n q; omega))
  · exact h.mono (Int.le_refl _) (by omega)
theorem px_tick (hq : In n q) (hno : ∀ t, D (noop t)) (h : PX D n M K c) (hM : 0 ≤ M) (draw : Int) : PX D n (M + 1) (K + n.toNat + n.toNat) (tickP tm noop n q draw c) := by
  have ho := others_le n q
  unfold tickP
  split
  · exact (px_feeds _ _ _ h).mono (by omega) (by omega)
  · simp only
    have hw := h.w
    split
    · unfold standP
      simp only
      have h1 : PX D n (M + 1) K ({ c with p := { c.p with waited := 0, limit := 10 + ((draw.tmod 10) + 10).tmod 10, T := c.p.T + 1, V := q, role := 2, leader := 0, votes := [q] } } : Cs E) := by
        refine ⟨⟨by have := hq.1; show 0 ≤ q; omega, hq.2⟩, (by simp), fun v hv => ?_, ⟨Int.le_refl 0, by show (0 : Int) ≤ M + 1; omega⟩, fun hr => absurd (show (2 : Int) = 3 from hr) (by decide), h.dlog, h.dout, h.len⟩
        have hv : v ∈ [q] := hv
        rw [List.mem_singleton] at hv
        rw [hv]
        exact hq
      exact (px_win hno (px_asks _ (fun e he => by simp [lt0] at he) (others n q) _ K h1)).mono (Int.le_refl _) (by omega)
    · exact ⟨h.v, h.nd, h.vin, ⟨by show 0 ≤ c.p.waited + 1; omega, by show c.p.waited + 1 ≤ M + 1; omega⟩, h.mat, h.dlog, h.dout, by have := h.len; show c.out.length ≤ _; omega⟩
theorem fit_sub {log : List E} {i was : Int} {es : List E} {last ch : Int} {log' : List E} (hf : fitP tm log i was es = some (last, ch, log')) : ∀ e ∈ log', e ∈ log ∨ e ∈ es := by
  intro e he
  unfold fitP at hf
  split at hf
  · injection hf with hf
    split at hf
    · injection hf with _ hf
      injection hf with _ hf
      subst hf
      exact .inl he
    · injection hf with _ hf
      injection hf with _ hf
      subst hf
      rw [List.mem_append] at he
      rcases he with he | he
      · exact .inl (List.mem_of_mem_take he)
      · exact .inr (List.mem_of_mem_drop he)
  · cases hf
theorem px_letter (hno : ∀ t, D (noop t)) (right : Bool) {l : Lt E} (hl : ∀ e ∈ l.ents, D e) (hn : 0 ≤ n) (h : PX D n M K c) : PX D n M (K + 1 + n.toNat) (letterP tm noop n q right l c) := by
  have hup : ∀ {c' : Cs E}, PX D n M (K + 1) c' → PX D n M (K + 1 + n.toNat) c' := fun h => h.mono (Int.le_refl _) (by omega)
  have hup0 : ∀ {c' : Cs E}, PX D n M K c' → PX D n M (K + 1 + n.toNat) c' := fun h => h.mono (Int.le_refl _) (by omega)
  unfold letterP
  split
  · next hme =>
    obtain ⟨-, -, -, -, -, hs1, hs2⟩ := hme
    simp only
    have hb : PX D n M K (if c.p.T < l.term then { c with p := { c.p with T := l.term, V := 0, role := 1, leader := 0 } } else c) := by
      split
      · exact ⟨⟨Int.le_refl 0, hn⟩, h.nd, h.vin, h.w, fun hr => absurd (show (1 : Int) = 3 from hr) (by decide), h.dlog, h.dout, h.len⟩
      · exact h
    generalize (if c.p.T < l.term then { c with p := { c.p with T := l.term, V := 0, role := 1, leader := 0 } } else c) = c1 at *
    have hw := hb.w
    have hm0 : 0 ≤ M := by omega
    split
    · split
      · unfold askedP
        simp only
        split
        · exact hup (px_send (c := { c1 with p := { c1.p with V := l.src, waited := 0 } }) ⟨⟨by show 0 ≤ l.src; omega, by show l.src ≤ n; omega⟩, hb.nd, hb.vin, ⟨Int.le_refl 0, hm0⟩, hb.mat, hb.dlog, hb.dout, hb.len⟩ _ (fun e he => by simp [lt0] at he))
        · exact hup (px_send hb _ (fun e he => by simp [lt0] at he))
      · split
        · unfold votedP
          split
          · refine (fun (h3 : PX D n M K ({ c1 with p := { c1.p with votes := addV l.src c1.p.votes } } : Cs E)) => (px_win hno h3).mono (Int.le_refl _) (by omega)) ⟨hb.v, ?_, ?_, hb.w, hb.mat, hb.dlog, hb.dout, hb.len⟩
            · show (addV l.src c1.p.votes).Nodup
              unfold addV
              split
              · exact hb.nd
              · next hni => exact List.nodup_append.2 ⟨hb.nd, by simp, fun a ha b hb' e => hni (by rw [List.mem_singleton] at hb'; rw [← hb', ← e]; exact ha)⟩
            · show ∀ v ∈ addV l.src c1.p.votes, _
              unfold addV
              split
              · exact hb.vin
              · intro v hv
                rw [List.mem_append, List.mem_singleton] at hv
                rcases hv with hv | rfl
                · exact hb.vin v hv
                · exact ⟨by omega, by omega⟩
          · exact hup0 hb
        · split
          · unfold fedP
            split
            · exact hup0 hb
            · simp only
              have h1 : PX D n M K ({ c1 with p := { c1.p with role := 1, leader := l.src, waited := 0 } } : Cs E) := ⟨hb.v, hb.nd, hb.vin, ⟨Int.le_refl 0, hm0⟩, fun hr => absurd (show (1 : Int) = 3 from hr) (by decide), hb.dlog, hb.dout, hb.len⟩
              split
              · exact hup (px_send h1 _ (fun e he => by simp [lt0] at he))
              · next last ch log' hf =>
                have hsub := fit_sub hf
                have h2 : PX D n M K (changedP { c1 with p := { c1.p with role := 1, leader := l.src, waited := 0, log := log' } } ch) := px_changed (c := { c1 with p := { c1.p with role := 1, leader := l.src, waited := 0, log := log' } }) ⟨hb.v, hb.nd, hb.vin, ⟨Int.le_refl 0, hm0⟩, fun hr => absurd (show (1 : Int) = 3 from hr) (by decide), fun e he => (hsub e he).elim (hb.dlog e) (hl e), hb.dout, hb.len⟩ _
                exact hup (px_send (c := { changedP { c1 with p := { c1.p with role := 1, leader := l.src, waited := 0, log := log' } } ch with p := { (changedP { c1 with p := { c1.p with role := 1, leader := l.src, waited := 0, log := log' } } ch).p with C := max (changedP { c1 with p := { c1.p with role := 1, leader := l.src, waited := 0, log := log' } } ch).p.C (min l.com last) } }) ⟨h2.v, h2.nd, h2.vin, h2.w, h2.mat, h2.dlog, h2.dout, h2.len⟩ _ (fun e he => by simp [lt0] at he))
          · unfold ateP
            split
            · exact hup0 hb
            · next hr =>
              have hr : c1.p.role = 3 := by omega
              have hmt := hb.mat hr
              split
              · next hh =>
                have h1 : PX D n M K ({ c1 with p := { c1.p with mat := setF c1.p.mat l.src l.idx, next := setF c1.p.next l.src (max (c1.p.next l.src) (l.idx + 1)) } } : Cs E) := by
                  refine ⟨hb.v, hb.nd, hb.vin, hb.w, fun _ p => ?_, hb.dlog, hb.dout, hb.len⟩
                  show 0 ≤ setF c1.p.mat l.src l.idx p
                  unfold setF
                  have := hmt p
                  have := hmt l.src
                  split <;> omega
                have h2 := px_settle (tm := tm) (q := q) h1
                simp only
                split
                · exact hup (px_feed h2 _)
                · exact hup0 h2
              · split
                · exact hup (px_feed (c := { c1 with p := { c1.p with next := setF c1.p.next l.src (l.idx + 1) } }) ⟨hb.v, hb.nd, hb.vin, hb.w, hb.mat, hb.dlog, hb.dout, hb.len⟩ _)
                · exact hup0 hb
    · split
      · exact hup (px_send hb _ (fun e he => by simp [lt0] at he))
      · split
        · exact hup (px_send hb _ (fun e he => by simp [lt0] at he))
        · exact hup0 hb
  · exact hup0 h
theorem px_propose (h : PX D n M K c) {e : E} (he : D e) : PX D n M K (proposeP tm n q e c) := px_settle (px_put h he)
end
end Go.Proofs.Ythfofnfkopnbhaa
namespace Go.Proofs.Ythfofnfkopnbhaa
open Go.RowKit Go.Maps Go.ChangeMaps
set_option linter.unusedVariables false
set_option linter.unusedSimpArgs false
set_option linter.unusedSectionVars false

def DE (e : En) : Prop := e.data = []
/-- What holds behind j moves. -/
structure RW (n : Nat) (j : Nat) (prs : Int → Pr En) (k : Kp) : Prop where
  inv : ∃ g, WdI En.term n g ⟨prs, k.net, k.ld, k.su⟩
  kT : ∀ s, In n s → k.T s = (prs s).T
  kV : ∀ s, In n s → k.V s = (prs s).V
  kL : ∀ s, In n s → k.L s = (prs s).log
  pb : ∀ s, In n s → PB j j ⟨prs s, 0, []⟩
  px : ∀ s, In n s → PX DE n j 0 ⟨prs s, 0, []⟩
  lb : ∀ l ∈ k.net, LB j j l ∧ ∀ e ∈ l.ents, DE e
  ldl : k.ld.length ≤ j + 1
  sul : k.su.length ≤ j
section
variable {n j : Nat} {prs : Int → Pr En} {k : Kp} {s : Int}
theorem RW.mono (h : RW n j prs k) {j' : Nat} (hj : j ≤ j') : RW n j' prs k :=
  ⟨h.inv, h.kT, h.kV, h.kL, fun s hs => (h.pb s hs).mono hj (by omega), fun s hs => (h.px s hs).mono (by omega) (Nat.le_refl _), fun l hl => ⟨(h.lb l hl).1.mono hj (by omega), (h.lb l hl).2⟩, by have := h.ldl; omega, by have := h.sul; omega⟩
theorem RW.ok (h : RW n j prs k) (hs : In n s) (h7 : n ≤ 7) (hj : j ≤ 500) : Ok n s ⟨prs s, 0, []⟩ := by
  obtain ⟨g, hg⟩ := h.inv
  have hp := h.pb s hs
  have hx := h.px s hs
  have h0 := hg.inv.t0 s hs
  have hl := hp.len
  have hT := hp.T
  have hw := hx.w
  have hv := hx.votes_len (by omega) (by have := hs.1; have := hs.2; omega)
  exact ⟨hs.1, hs.2, by omega, Nat.le_trans hl (by omega), fun e he => by have := hx.dlog e he; unfold DE at this; rw [this]; exact Nat.zero_le _, h0, Int.le_trans hT (by omega), hw.1, Int.le_trans hw.2 (by omega), hp.nx, Nat.le_trans hv (by decide)⟩
theorem RW.lost (h : RW n j prs k) {net : List (Lt En)} (hn : ∀ l ∈ net, l ∈ k.net) : RW n j prs { k with net := net } := by
  obtain ⟨g, hg⟩ := h.inv
  exact ⟨⟨g, lost_ok hg hn⟩, h.kT, h.kV, h.kL, h.pb, h.px, fun l hl => h.lb l (hn l hl), h.ldl, h.sul⟩
theorem RW.start (h : RW n j prs k) (hs : In n s) : RW n j (setAt prs s (prNew (k.T s) (k.V s) (k.L s))) k := by
  obtain ⟨g, hg⟩ := h.inv
  have e : prNew (k.T s) (k.V s) (k.L s) = startP (prs s) := by rw [h.kT s hs, h.kV s hs, h.kL s hs]; rfl
  rw [e]
  have hw := start_ok hg hs
  have hx := h.px s hs
  refine ⟨⟨g, hw⟩, fun p hp => ?_, fun p hp => ?_, fun p hp => ?_, fun p hp => ?_, fun p hp => ?_, h.lb, h.ldl, h.sul⟩
  · unfold setAt
    split
    · next e => rw [e]; exact h.kT s hs
    · exact h.kT p hp
  · unfold setAt
    split
    · next e => rw [e]; exact h.kV s hs
    · exact h.kV p hp
  · unfold setAt
    split
    · next e => rw [e]; exact h.kL s hs
    · exact h.kL p hp
  · unfold setAt
    split
    · have hb := h.pb s hs
      exact ⟨hb.len, hb.T, fun hr => absurd (show (1 : Int) = 3 from hr) (by decide), hb.out⟩
    · exact h.pb p hp
  · unfold setAt
    split
    · exact ⟨hx.v, by simp [startP], fun v hv => (by simp [startP] at hv), ⟨Int.le_refl 0, by show (0 : Int) ≤ j; omega⟩, fun hr => absurd (show (1 : Int) = 3 from hr) (by decide), hx.dlog, hx.dout, hx.len⟩
    · exact h.px p hp
theorem padL_len (l : List Int) (m : Nat) : (padL l m).length = max l.length m := by
  unfold padL
  simp
  omega
/-- A step of a server, and what it tells. -/
theorem RW.step (h : RW n j prs k) {s : Nat} (hs : In n s) (h7 : n ≤ 7) (hj : j ≤ 400) {net : List (Lt En)} (hnet : ∀ l ∈ net, l ∈ k.net) (hnl : net.length ≤ 500) {c : Cs En} (hst : St En.term n s k.net ⟨prs s, 0, []⟩ c) (hT : (prs s).T ≤ c.p.T) (hfi : FI (prs s).log.length c) (hpb : PB (j + 1) ((j + 1 : Nat) : Int) c) (hpx : PX DE n ((j + 1 : Nat) : Int) 100 c) :
    TkOk { k with net := net } s c ∧ RW n (j + 1) (setAt prs s c.p) (tookK { k with net := net } s c) ∧ c.out.length ≤ 100 := by
  obtain ⟨g, hg⟩ := h.inv
  obtain ⟨hw, ht⟩ := took_ok hg hs hnet hst
  have hl := hpb.len
  have hTT := hpb.T
  have hld := h.ldl
  have hsu := h.sul
  have hps := (h.pb s hs).len
  have hcom := ht.com
  refine ⟨⟨?_, ht.term, by omega, fun e1 e2 => ?_, fun e => ?_, ht.lead, hcom.1, hcom.2, ht.sure, by omega, by have := hpx.len; omega, by show net.length ≤ 1000; omega, by show k.ld.length ≤ 10000; omega, by show k.su.length ≤ 1000; omega, fun e he => by have := hpx.dlog e he; unfold DE at this; rw [this]; exact Nat.zero_le _, ?_⟩, ⟨hw, fun p hp => ?_, fun p hp => ?_, fun p hp => ?_, fun p hp => ?_, fun p hp => ?_, fun l hl => ?_, ?_, ?_⟩, hpx.len⟩
  · show k.T s ≤ _; rw [h.kT s hs]; exact hT
  · have e1 : c.p.T = k.T s := e1
    have e2 : k.V s ≠ 0 := e2
    show c.p.V = k.V s
    rw [h.kT s hs] at e1
    rw [h.kV s hs] at e2 ⊢
    exact ht.vote e1 e2
  · show c.p.log.length = (k.L s).length
    rw [h.kL s hs]
    exact hfi.2 e
  · show (k.L s).length ≤ 1000
    rw [h.kL s hs]
    have hps : (prs s).log.length ≤ j := hps
    omega
  · show setAt k.T s c.p.T p = (setAt prs s c.p p).T
    unfold setAt
    split
    · rfl
    · exact h.kT p hp
  · show setAt k.V s c.p.V p = (setAt prs s c.p p).V
    unfold setAt
    split
    · rfl
    · exact h.kV p hp
  · show setAt k.L s c.p.log p = (setAt prs s c.p p).log
    unfold setAt
    split
    · rfl
    · exact h.kL p hp
  · unfold setAt
    split
    · exact ⟨hpb.len, hpb.T, hpb.nx, fun l hl => by cases hl⟩
    · exact (h.pb p hp).mono (by omega) (by omega)
  · unfold setAt
    split
    · exact ⟨hpx.v, hpx.nd, hpx.vin, hpx.w, hpx.mat, hpx.dlog, fun l hl => (by cases hl), Nat.le_refl _⟩
    · exact (h.px p hp).mono (by omega) (Nat.le_refl _)
  · have hl : l ∈ net ++ c.out := hl
    rw [List.mem_append] at hl
    rcases hl with hl | hl
    · exact ⟨(h.lb l (hnet l hl)).1.mono (by omega) (by omega), (h.lb l (hnet l hl)).2⟩
    · exact ⟨hpb.out l hl, hpx.dout l hl⟩
  · show (if c.p.role = 3 then (padL k.ld (c.p.T.toNat + 1)).set c.p.T.toNat s else padL k.ld (c.p.T.toNat + 1)).length ≤ _
    have : (padL k.ld (c.p.T.toNat + 1)).length ≤ j + 1 + 1 := by rw [padL_len]; omega
    split
    · rw [List.length_set]; exact this
    · exact this
  · show (k.su ++ (c.p.log.take c.p.C.toNat).drop k.su.length).length ≤ j + 1
    simp
    omega
theorem noop_term (t : Int) : En.term (noopE t) = t := rfl
theorem noop_de (t : Int) : DE (noopE t) := rfl
theorem RW.tick (h : RW n j prs k) {s : Nat} (hs : In n s) (h7 : n ≤ 7) (hj : j ≤ 400) (hnl : k.net.length ≤ 500) (draw : Int) :
    TkOk k s (tickP En.term noopE n s draw ⟨prs s, 0, []⟩) ∧ RW n (j + 1) (setAt prs s (tickP En.term noopE n s draw ⟨prs s, 0, []⟩).p) (tookK k s (tickP En.term noopE n s draw ⟨prs s, 0, []⟩)) ∧ (tickP En.term noopE n s draw ⟨prs s, 0, []⟩).out.length ≤ 100 :=
  h.step (net := k.net) hs h7 hj (fun _ h => h) hnl (st_tick noop_term hs draw) (tick_T _ draw).1 (tick_fi ⟨Int.le_refl 0, fun _ => rfl⟩ draw) (by
    have := pb_tick (tm := En.term) (n := n) (q := s) (noop := noopE) (h.pb s hs) draw
    exact this) ((px_tick (tm := En.term) hs noop_de (h.px s hs) (by omega) draw).mono (by omega) (by omega))
theorem RW.letter (h : RW n j prs k) {s : Nat} (hs : In n s) (h7 : n ≤ 7) (hj : j ≤ 400) {net : List (Lt En)} (hnet : ∀ l ∈ net, l ∈ k.net) (hnl : net.length ≤ 500) {l : Lt En} (hl : l ∈ k.net) (b : Bool) :
    TkOk { k with net := net } s (letterP En.term noopE n s b l ⟨prs s, 0, []⟩) ∧ RW n (j + 1) (setAt prs s (letterP En.term noopE n s b l ⟨prs s, 0, []⟩).p) (tookK { k with net := net } s (letterP En.term noopE n s b l ⟨prs s, 0, []⟩)) ∧ (letterP En.term noopE n s b l ⟨prs s, 0, []⟩).out.length ≤ 100 :=
  h.step hs h7 hj hnet hnl (st_letter noop_term hs hl b) (letter_T b l _).1 (letter_fi b l ⟨Int.le_refl 0, fun _ => rfl⟩) ((pb_letter (h.pb s hs) b (h.lb l hl).1 (fun hr => (h.px s hs).mat hr _)).mono (Nat.le_refl _) (by omega)) ((px_letter noop_de b (h.lb l hl).2 (by omega) (h.px s hs)).mono (by omega) (by omega))
theorem RW.propose (h : RW n j prs k) {s : Nat} (hs : In n s) (h7 : n ≤ 7) (hj : j ≤ 400) (hnl : k.net.length ≤ 500) {e : En} (he : DE e) (hr : (prs s).role = 3) :
    TkOk k s (proposeP En.term n s { e with term := (prs s).T } ⟨prs s, 0, []⟩) ∧ RW n (j + 1) (setAt prs s (proposeP En.term n s { e with term := (prs s).T } ⟨prs s, 0, []⟩).p) (tookK k s (proposeP En.term n s { e with term := (prs s).T } ⟨prs s, 0, []⟩)) ∧ (proposeP En.term n s { e with term := (prs s).T } ⟨prs s, 0, []⟩).out.length ≤ 100 := by
  have hp := pb_propose (tm := En.term) (n := n) (q := s) (h.pb s hs) { e with term := (prs s).T }
  refine h.step (net := k.net) hs h7 hj (fun _ h => h) hnl (st_propose (tm := En.term) (c := ⟨prs s, 0, []⟩) hs hr rfl) ?_ ?_ (hp.mono (Nat.le_refl _) (by omega)) ((px_propose (tm := En.term) (n := n) (q := s) (h.px s hs) (show DE { e with term := (prs s).T } from he)).mono (by omega) (by omega))
  · have h1 := (qt_settle (tm := En.term) (n := n) (q := s) (putP ⟨prs s, 0, []⟩ { e with term := (prs s).T })).T
    have h2 := put_T (⟨prs s, 0, []⟩ : Cs En) { e with term := (prs s).T }
    show (prs s).T ≤ (settleP En.term n s (putP ⟨prs s, 0, []⟩ { e with term := (prs s).T })).p.T
    rw [h1, h2]
    exact Int.le_refl _
  · exact (qt_settle (tm := En.term) (n := n) (q := s) _).fi (put_fi (Int.le_refl 0) _)
end
end Go.Proofs.Ythfofnfkopnbhaa
