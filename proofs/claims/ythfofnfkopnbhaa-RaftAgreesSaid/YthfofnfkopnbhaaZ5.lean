/- raft, the plain law: what agreement rests on: servers, ghosts, and what holds at all times; no program in sight. raft, the plain law: what keeps what holds: a server changes what no other one sees; it comes to a later term; it stands; it votes. -/
import Derived.WalkKit
namespace Go.Proofs.Ythfofnfkopnbhaa
set_option linter.unusedVariables false
set_option linter.unusedSimpArgs false
set_option linter.unusedSectionVars false

/-- Is a number a server's? -/
def In (n q : Int) : Prop := 1 ≤ q ∧ q ≤ n
/-- Most servers are so. -/
def Maj (n : Int) (P : Int → Prop) : Prop := ∃ Q : List Int, Q.Nodup ∧ (∀ q ∈ Q, In n q ∧ P q) ∧ 0 ≤ n ∧ n < 2 * (Q.length : Int)
theorem nodup_len : ∀ (m : Nat) (l : List Int), l.Nodup → (∀ q ∈ l, 1 ≤ q ∧ q ≤ (m : Int)) → l.length ≤ m
  | 0, l, _, h => by
    cases l with
    | nil => simp
    | cons a t => have := h a (List.mem_cons_self ..); omega
  | m + 1, l, hd, h => by
    by_cases hm : ((m + 1 : Nat) : Int) ∈ l
    · have h1 := List.length_erase_of_mem hm
      have h2 := nodup_len m (l.erase ((m + 1 : Nat) : Int)) (hd.erase _) (fun q hq => by
        have h3 := List.mem_of_mem_erase hq
        have h4 := h q h3
        have h5 : q ≠ ((m + 1 : Nat) : Int) := by
          rintro rfl
          exact (List.Nodup.not_mem_erase hd) hq
        omega)
      omega
    · have h2 := nodup_len m l hd (fun q hq => by
        have h4 := h q hq
        have h5 : q ≠ ((m + 1 : Nat) : Int) := by rintro rfl; exact hm hq
        omega)
      omega
/-- Two majorities have a server in common. -/
theorem Maj.meet {n : Int} {P R : Int → Prop} (h : Maj n P) (h' : Maj n R) : ∃ q, In n q ∧ P q ∧ R q := by
  obtain ⟨Q, h1, h2, hn, h3⟩ := h
  obtain ⟨Q', k1, k2, _, k3⟩ := h'
  by_cases hx : ∃ q, q ∈ Q ∧ q ∈ Q'
  · obtain ⟨q, a, b⟩ := hx
    exact ⟨q, (h2 q a).1, (h2 q a).2, (k2 q b).2⟩
  · exfalso
    have hd : (Q ++ Q').Nodup := List.nodup_append.2 ⟨h1, k1, fun a ha b hb e => hx ⟨a, ha, e ▸ hb⟩⟩
    have := nodup_len n.toNat (Q ++ Q') hd (fun q hq => by
      rw [List.mem_append] at hq
      have : In n q := by
        rcases hq with hq | hq
        · exact (h2 q hq).1
        · exact (k2 q hq).1
      unfold In at this
      omega)
    simp at this
    omega
theorem Maj.mono {n : Int} {P R : Int → Prop} (h : Maj n P) (hm : ∀ q, In n q → P q → R q) : Maj n R := by
  obtain ⟨Q, h1, h2, h3⟩ := h
  exact ⟨Q, h1, fun q hq => ⟨(h2 q hq).1, hm q (h2 q hq).1 (h2 q hq).2⟩, h3⟩
section
variable {E : Type} (tm : E → Int)
/-- The term of a log's last entry. -/
def lastT (l : List E) : Int := match l.getLast? with | none => 0 | some e => tm e
/-- The term at an index; none: there is nothing. -/
def tmAt (l : List E) (i : Int) : Option Int := if i = 0 then some 0 else if i < 0 then none else (l[(i - 1).toNat]?).map tm
/-- The k-th entry is of term t. -/
def TmK (l : List E) (k : Nat) (t : Int) : Prop := 1 ≤ k ∧ ∃ e, l[k - 1]? = some e ∧ tm e = t
/-- At least as new. -/
def UpTo (c v : List E) : Prop := lastT tm v < lastT tm c ∨ lastT tm c = lastT tm v ∧ v.length ≤ c.length
/-- A log whose entries stand as the logs of their terms have them. -/
def Cons (LL : Int → List E) (l : List E) : Prop := ∀ i e, l[i]? = some e → l.take (i + 1) = (LL (tm e)).take (i + 1)
/-- A server. -/
structure Srv (E : Type) where
  T : Int
  V : Int
  C : Nat
  log : List E
  role : Int
  votes : List Int
  next : Int → Int
  mat : Int → Int
/-- What nobody keeps: who was elected, the leaders' logs, the candidates' logs, votes, logs at votes, what is known to stand. -/
structure Gh (E : Type) where
  el : Int → Int
  LL : Int → List E
  CL : Int → Int → List E
  VT : Int → Int → Int
  VL : Int → Int → List E
  A : Int → Int → Nat
/-- That many servers are past the term without the k-th entry. -/
def Dead (n : Int) (g : Gh E) (s : Int → Srv E) (t : Int) (k : Nat) : Prop := Maj n fun q => t < (s q).T ∧ g.A q t < k
/-- Most have the k-th entry of a term. -/
def Chosen (n : Int) (g : Gh E) (t : Int) (k : Nat) : Prop := TmK tm (g.LL t) k t ∧ Maj n fun q => k ≤ g.A q t
/-- The first c entries of a log are commit, by a term up to T. -/
def CC (n : Int) (g : Gh E) (l : List E) (T : Int) (c : Nat) : Prop := c = 0 ∨ ∃ t k, t ≤ T ∧ Chosen tm n g t k ∧ c ≤ k ∧ c ≤ l.length ∧ l.take c = (g.LL t).take c
/-- What holds at all times. -/
structure Inv (n : Int) (g : Gh E) (s : Int → Srv E) : Prop where
  t0 : ∀ q, In n q → 0 ≤ (s q).T
  vt0 : ∀ q t, In n q → (s q).T < t → g.VT q t = 0
  vtc : ∀ q, In n q → g.VT q (s q).T = (s q).V
  vin : ∀ q t, In n q → g.VT q t ≠ 0 → In n (g.VT q t) ∧ 1 ≤ t
  vself : ∀ q t, In n q → g.VT q t ≠ 0 → g.VT (g.VT q t) t = g.VT q t
  vup : ∀ q t, In n q → g.VT q t ≠ 0 → UpTo tm (g.CL t (g.VT q t)) (g.VL q t)
  elm : ∀ t, g.el t ≠ 0 → In n (g.el t) ∧ Maj n (fun q => g.VT q t = g.el t)
  elp : ∀ t, g.el t ≠ 0 → g.CL t (g.el t) <+: g.LL t
  el0 : ∀ t, g.el t = 0 → g.LL t = []
  cand : ∀ q, In n q → (s q).role = 2 → (s q).V = q ∧ g.el (s q).T ≠ q ∧ (s q).log = g.CL (s q).T q ∧ (s q).votes.Nodup ∧ ∀ v ∈ (s q).votes, In n v ∧ g.VT v (s q).T = q
  lead : ∀ q, In n q → (s q).role = 3 → g.el (s q).T = q ∧ g.LL (s q).T = (s q).log ∧ g.A q (s q).T = (s q).log.length ∧ (∀ p, In n p → p ≠ q → 0 ≤ (s q).mat p ∧ (s q).mat p ≤ (g.A p (s q).T : Int)) ∧ ∀ p, In n p → p ≠ q → 1 ≤ (s q).next p ∧ (s q).next p ≤ ((s q).log.length : Int) + 1
  clog : ∀ q, In n q → Cons tm g.LL (s q).log
  cLL : ∀ t, Cons tm g.LL (g.LL t)
  cCL : ∀ q t, In n q → g.VT q t = q → Cons tm g.LL (g.CL t q)
  cVL : ∀ q t, In n q → g.VT q t ≠ 0 → Cons tm g.LL (g.VL q t)
  tLL : ∀ t e, e ∈ g.LL t → 1 ≤ tm e ∧ tm e ≤ t
  sLL : ∀ t, (g.LL t).Pairwise fun a b => tm a ≤ tm b
  tlog : ∀ q e, In n q → e ∈ (s q).log → tm e ≤ (s q).T
  tCL : ∀ q t e, In n q → g.VT q t = q → e ∈ g.CL t q → tm e < t
  aLL : ∀ q t, In n q → g.A q t ≤ (g.LL t).length
  a0 : ∀ q t, In n q → (s q).T < t → g.A q t = 0
  i1 : ∀ t' t k, g.el t' ≠ 0 → t < t' → TmK tm (g.LL t) k t → (g.LL t').take k = (g.LL t).take k ∨ Dead n g s t k
  i2 : ∀ q t k, In n q → k ≤ g.A q t → TmK tm (g.LL t) k t → (s q).log.take k = (g.LL t).take k ∨ Dead n g s t k
  i3 : ∀ q t' t k, In n q → g.VT q t' ≠ 0 → t < t' → k ≤ g.A q t → TmK tm (g.LL t) k t → (g.VL q t').take k = (g.LL t).take k ∨ Dead n g s t k
  com : ∀ q, In n q → CC tm n g (s q).log (s q).T (s q).C
end
section
variable {E : Type} {tm : E → Int} {n : Int} {g : Gh E} {s : Int → Srv E}
theorem TmK.len {l : List E} {k : Nat} {t : Int} (h : TmK tm l k t) : 1 ≤ k ∧ k ≤ l.length := by
  obtain ⟨h1, e, h2, _⟩ := h
  have := (List.getElem?_eq_some_iff.1 h2).1
  omega
theorem TmK.take {l l' : List E} {k j : Nat} {t : Int} (h : TmK tm l k t) (e : l'.take j = l.take j) (hk : k ≤ j) : TmK tm l' k t := by
  obtain ⟨h1, x, h2, h3⟩ := h
  refine ⟨h1, x, ?_, h3⟩
  have a1 : (l'.take j)[k - 1]? = l'[k - 1]? := by rw [List.getElem?_take, if_pos (by omega)]
  have a2 : (l.take j)[k - 1]? = l[k - 1]? := by rw [List.getElem?_take, if_pos (by omega)]
  rw [← a1, e, a2, h2]
theorem take_le {l l' : List E} {k j : Nat} (e : l'.take j = l.take j) (hk : k ≤ j) : l'.take k = l.take k := by
  have a1 : (l'.take j).take k = l'.take k := by rw [List.take_take, Nat.min_eq_left hk]
  have a2 : (l.take j).take k = l.take k := by rw [List.take_take, Nat.min_eq_left hk]
  rw [← a1, e, a2]
theorem take_len {l l' : List E} {k : Nat} (e : l'.take k = l.take k) (hk : k ≤ l.length) : k ≤ l'.length := by
  have := congrArg List.length e
  simp at this
  omega
theorem Cons.take {LL : Int → List E} {l : List E} (h : Cons tm LL l) (k : Nat) : Cons tm LL (l.take k) := by
  intro i e he
  rw [List.getElem?_take] at he
  split at he
  · next h1 =>
    have := h i e he
    rw [List.take_take, Nat.min_eq_left (by omega)]
    exact this
  · cases he
theorem Cons.pre {LL : Int → List E} {l l' : List E} (h : Cons tm LL l) (hp : l' <+: l) : Cons tm LL l' := by
  rw [List.prefix_iff_eq_take] at hp
  rw [hp]
  exact h.take _
/-- A log that stands as its terms' logs have it: the k-th entry of term t. -/
theorem Cons.at_ {LL : Int → List E} {l : List E} {k : Nat} {t : Int} (h : Cons tm LL l) (hk : TmK tm l k t) : l.take k = (LL t).take k ∧ k ≤ (LL t).length := by
  obtain ⟨h1, e, h2, rfl⟩ := hk
  have := h _ _ h2
  rw [show k - 1 + 1 = k by omega] at this
  exact ⟨this, take_len this.symm (by have := (List.getElem?_eq_some_iff.1 h2).1; omega)⟩
theorem last_get {l : List E} (h : l ≠ []) : TmK tm l l.length (lastT tm l) := by
  have h1 : 0 < l.length := List.length_pos_iff.2 h
  refine ⟨h1, l[l.length - 1], List.getElem?_eq_getElem (by omega), ?_⟩
  unfold lastT
  rw [List.getLast?_eq_getElem?, List.getElem?_eq_getElem (by omega)]
theorem lastT_nil : lastT tm ([] : List E) = 0 := rfl
theorem lastT_mem {l : List E} (h : l ≠ []) : ∃ e ∈ l, tm e = lastT tm l := by
  obtain ⟨_, e, h2, h3⟩ := last_get (tm := tm) h
  exact ⟨e, List.mem_of_getElem? h2, h3⟩
theorem TmK.mem {l : List E} {k : Nat} {t : Int} (h : TmK tm l k t) : ∃ e ∈ l, tm e = t := by
  obtain ⟨_, e, h2, h3⟩ := h
  exact ⟨e, List.mem_of_getElem? h2, h3⟩
theorem Dead.mono {g' : Gh E} {s' : Int → Srv E} {t : Int} {k : Nat} (h : Dead n g s t k) (hT : ∀ q, In n q → (s q).T ≤ (s' q).T) (hA : ∀ q, In n q → t < (s q).T → g'.A q t ≤ g.A q t) : Dead n g' s' t k :=
  Maj.mono h fun q hq h => by have := hT q hq; have := hA q hq h.1; omega
theorem Chosen.not_dead {t : Int} {k : Nat} (h : Chosen tm n g t k) (hd : Dead n g s t k) : False := by
  obtain ⟨q, _, h1, h2⟩ := h.2.meet hd
  omega
/-- Terms of entries of term-ordered logs: up to the k-th, of term t, all are up to t. -/
theorem sorted_le {l : List E} (h : l.Pairwise fun a b => tm a ≤ tm b) {i j : Nat} {a b : E} (hi : l[i]? = some a) (hj : l[j]? = some b) (hij : i ≤ j) : tm a ≤ tm b := by
  rcases Nat.lt_or_eq_of_le hij with h1 | h1
  · obtain ⟨h2, rfl⟩ := List.getElem?_eq_some_iff.1 hi
    obtain ⟨h3, rfl⟩ := List.getElem?_eq_some_iff.1 hj
    exact List.pairwise_iff_getElem.1 h i j h2 h3 h1
  · subst h1
    rw [hi] at hj
    injection hj with hj
    rw [hj]
    exact Int.le_refl _
end
end Go.Proofs.Ythfofnfkopnbhaa
namespace Go.Proofs.Ythfofnfkopnbhaa
set_option linter.unusedVariables false
set_option linter.unusedSimpArgs false
set_option linter.unusedSectionVars false

section
variable {E : Type} {tm : E → Int} {n : Int} {g : Gh E} {s : Int → Srv E}
def upd (s : Int → Srv E) (q : Int) (v : Srv E) : Int → Srv E := fun p => if p = q then v else s p
@[simp] theorem upd_same (s : Int → Srv E) (q : Int) (v : Srv E) : upd s q v q = v := by simp [upd]
theorem upd_ne (s : Int → Srv E) {q p : Int} (v : Srv E) (h : p ≠ q) : upd s q v p = s p := by simp [upd, h]
theorem upd_at (s : Int → Srv E) (q : Int) (v : Srv E) (R : Srv E → Srv E → Prop) (h : R v (s q)) (p : Int) (hp : R (s p) (s p)) : R (upd s q v p) (s p) := by
  by_cases e : p = q
  · subst e; rw [upd_same]; exact h
  · rw [upd_ne s v e]; exact hp
/-- What nobody keeps only grows. -/
structure Le (n : Int) (g g' : Gh E) : Prop where
  ll : ∀ t, g.LL t <+: g'.LL t
  a : ∀ q t, In n q → g.A q t ≤ g'.A q t
  vt : ∀ q t, In n q → g.VT q t ≠ 0 → g'.VT q t = g.VT q t
  el : ∀ t, g.el t ≠ 0 → g'.el t = g.el t
  cl : ∀ q t, In n q → g.VT q t = q → g'.CL t q = g.CL t q
theorem Le.refl (g : Gh E) : Le n g g := ⟨fun t => List.prefix_rfl, fun _ _ _ => Nat.le_refl _, fun _ _ _ _ => rfl, fun _ _ => rfl, fun _ _ _ _ => rfl⟩
theorem in_ne {q : Int} (h : In n q) : q ≠ 0 := by unfold In at h; omega
theorem Le.trans {g' g'' : Gh E} (h : Le n g g') (k : Le n g' g'') : Le n g g'' :=
  ⟨fun t => (h.ll t).trans (k.ll t), fun q t hq => Nat.le_trans (h.a q t hq) (k.a q t hq), fun q t hq hv => (k.vt q t hq (by rw [h.vt q t hq hv]; exact hv)).trans (h.vt q t hq hv), fun t he => (k.el t (by rw [h.el t he]; exact he)).trans (h.el t he),
    fun q t hq hv => (k.cl q t hq (by rw [h.vt q t hq (by rw [hv]; exact in_ne hq)]; exact hv)).trans (h.cl q t hq hv)⟩
theorem pre_take {l l' : List E} (h : l <+: l') {k : Nat} (hk : k ≤ l.length) : l'.take k = l.take k := by
  obtain ⟨r, rfl⟩ := h
  exact List.take_append_of_le_length hk
theorem TmK.pre {l l' : List E} {k : Nat} {t : Int} (h : TmK tm l k t) (hp : l <+: l') : TmK tm l' k t := h.take (pre_take hp h.len.2) (Nat.le_refl _)
theorem Cons.grow {LL LL' : Int → List E} {l : List E} (h : Cons tm LL l) (hp : ∀ t, LL t <+: LL' t) : Cons tm LL' l := by
  intro i e he
  have h1 := h i e he
  have hl := (List.getElem?_eq_some_iff.1 he).1
  rw [h1]
  exact (pre_take (hp _) (take_len h1.symm (by omega))).symm
theorem Chosen.le {g' : Gh E} (h : Le n g g') {t : Int} {k : Nat} (hc : Chosen tm n g t k) : Chosen tm n g' t k :=
  ⟨hc.1.pre (h.ll t), hc.2.mono fun q hq hk => Nat.le_trans hk (h.a q t hq)⟩
theorem CC.le {g' : Gh E} (h : Le n g g') {l : List E} {T : Int} {c : Nat} (hc : CC tm n g l T c) : CC tm n g' l T c := by
  rcases hc with h0 | ⟨t, k, h1, h2, h3, h4, h5⟩
  · exact .inl h0
  · refine .inr ⟨t, k, h1, h2.le h, h3, h4, ?_⟩
    rw [h5]
    exact (pre_take (h.ll t) (by have := h2.1.len; omega)).symm
theorem CC.up {l : List E} {T T' : Int} {c : Nat} (hc : CC tm n g l T c) (hT : T ≤ T') : CC tm n g l T' c := by
  rcases hc with h0 | ⟨t, k, h1, h2⟩
  · exact .inl h0
  · exact .inr ⟨t, k, by omega, h2⟩
theorem CC.pre {l l' : List E} {T : Int} {c : Nat} (hc : CC tm n g l T c) (hp : l <+: l') : CC tm n g l' T c := by
  rcases hc with h0 | ⟨t, k, h1, h2, h3, h4, h5⟩
  · exact .inl h0
  · have := hp.length_le
    exact .inr ⟨t, k, h1, h2, h3, by omega, by rw [pre_take hp h4, h5]⟩
/-- A server changes what no other one sees. -/
theorem Inv.serve (h : Inv tm n g s) {q : Int} (hq : In n q) (v : Srv E) (hT : v.T = (s q).T) (hV : v.V = (s q).V) (hl : v.log = (s q).log)
    (h2 : v.role = 2 → v.V = q ∧ g.el v.T ≠ q ∧ v.log = g.CL v.T q ∧ v.votes.Nodup ∧ ∀ p ∈ v.votes, In n p ∧ g.VT p v.T = q)
    (h3 : v.role = 3 → g.el v.T = q ∧ g.LL v.T = v.log ∧ g.A q v.T = v.log.length ∧ (∀ p, In n p → p ≠ q → 0 ≤ v.mat p ∧ v.mat p ≤ (g.A p v.T : Int)) ∧ ∀ p, In n p → p ≠ q → 1 ≤ v.next p ∧ v.next p ≤ (v.log.length : Int) + 1)
    (hC : CC tm n g v.log v.T v.C) : Inv tm n g (upd s q v) := by
  have eT : ∀ p, (upd s q v p).T = (s p).T := fun p => upd_at s q v (fun x y => x.T = y.T) hT p rfl
  have eV : ∀ p, (upd s q v p).V = (s p).V := fun p => upd_at s q v (fun x y => x.V = y.V) hV p rfl
  have eL : ∀ p, (upd s q v p).log = (s p).log := fun p => upd_at s q v (fun x y => x.log = y.log) hl p rfl
  have hD : ∀ t k, Dead n g s t k → Dead n g (upd s q v) t k := fun t k hd => hd.mono (fun p _ => by rw [eT]; exact Int.le_refl _) (fun p _ _ => Nat.le_refl _)
  refine { t0 := ?_, vt0 := ?_, vtc := ?_, vin := h.vin, vself := h.vself, vup := h.vup, elm := h.elm, elp := h.elp, el0 := h.el0, cand := ?_, lead := ?_, clog := ?_, cLL := h.cLL, cCL := h.cCL, cVL := h.cVL, tLL := h.tLL, sLL := h.sLL, tlog := ?_, tCL := h.tCL, aLL := h.aLL, a0 := ?_, i1 := ?_, i2 := ?_, i3 := ?_, com := ?_ }
  · intro p hp; rw [eT]; exact h.t0 p hp
  · intro p t hp; rw [eT]; exact h.vt0 p t hp
  · intro p hp; rw [eT, eV]; exact h.vtc p hp
  · intro p hp hr
    by_cases e : p = q
    · subst e; rw [upd_same] at hr ⊢; exact h2 hr
    · rw [upd_ne s v e] at hr ⊢; exact h.cand p hp hr
  · intro p hp hr
    by_cases e : p = q
    · subst e; rw [upd_same] at hr ⊢; exact h3 hr
    · rw [upd_ne s v e] at hr ⊢; exact h.lead p hp hr
  · intro p hp; rw [eL]; exact h.clog p hp
  · intro p e hp; rw [eL, eT]; exact h.tlog p e hp
  · intro p t hp; rw [eT]; exact h.a0 p t hp
  · exact fun t' t k a b c => (h.i1 t' t k a b c).imp id (hD t k)
  · intro p t k hp a b; rw [eL]; exact (h.i2 p t k hp a b).imp id (hD t k)
  · exact fun p t' t k hp a b c d => (h.i3 p t' t k hp a b c d).imp id (hD t k)
  · intro p hp
    by_cases e : p = q
    · subst e; rw [upd_same]; exact hC
    · rw [upd_ne s v e]; exact h.com p hp
/-- A server comes to a later term. -/
theorem Inv.bump (h : Inv tm n g s) {q : Int} (hq : In n q) (v : Srv E) (hT : (s q).T < v.T) (hV : v.V = 0) (hl : v.log = (s q).log) (hr : v.role = 1) (hC : v.C = (s q).C) : Inv tm n g (upd s q v) := by
  have eT : ∀ p, (s p).T ≤ (upd s q v p).T := fun p => upd_at s q v (fun x y => y.T ≤ x.T) (Int.le_of_lt hT) p (Int.le_refl _)
  have eL : ∀ p, (upd s q v p).log = (s p).log := fun p => upd_at s q v (fun x y => x.log = y.log) hl p rfl
  have hD : ∀ t k, Dead n g s t k → Dead n g (upd s q v) t k := fun t k hd => hd.mono (fun p _ => eT p) (fun p _ _ => Nat.le_refl _)
  refine { t0 := ?_, vt0 := ?_, vtc := ?_, vin := h.vin, vself := h.vself, vup := h.vup, elm := h.elm, elp := h.elp, el0 := h.el0, cand := ?_, lead := ?_, clog := ?_, cLL := h.cLL, cCL := h.cCL, cVL := h.cVL, tLL := h.tLL, sLL := h.sLL, tlog := ?_, tCL := h.tCL, aLL := h.aLL, a0 := ?_, i1 := ?_, i2 := ?_, i3 := ?_, com := ?_ }
  · intro p hp; have := h.t0 p hp; have := eT p; omega
  · intro p t hp ht; exact h.vt0 p t hp (by have := eT p; omega)
  · intro p hp
    by_cases e : p = q
    · subst e; rw [upd_same, hV]; exact h.vt0 p _ hp hT
    · rw [upd_ne s v e]; exact h.vtc p hp
  · intro p hp hr2
    by_cases e : p = q
    · subst e; rw [upd_same, hr] at hr2; cases hr2
    · rw [upd_ne s v e] at hr2 ⊢; exact h.cand p hp hr2
  · intro p hp hr2
    by_cases e : p = q
    · subst e; rw [upd_same, hr] at hr2; cases hr2
    · rw [upd_ne s v e] at hr2 ⊢; exact h.lead p hp hr2
  · intro p hp; rw [eL]; exact h.clog p hp
  · intro p e hp he; rw [eL] at he; have := h.tlog p e hp he; have := eT p; omega
  · intro p t hp ht; exact h.a0 p t hp (by have := eT p; omega)
  · exact fun t' t k a b c => (h.i1 t' t k a b c).imp id (hD t k)
  · intro p t k hp a b; rw [eL]; exact (h.i2 p t k hp a b).imp id (hD t k)
  · exact fun p t' t k hp a b c d => (h.i3 p t' t k hp a b c d).imp id (hD t k)
  · intro p hp
    by_cases e : p = q
    · subst e; rw [upd_same, hC, hl]; exact (h.com p hp).up (by omega)
    · rw [upd_ne s v e]; exact h.com p hp
def vote (g : Gh E) (q T c : Int) (l : List E) : Gh E :=
  { g with VT := fun p t => if p = q ∧ t = T then c else g.VT p t, VL := fun p t => if p = q ∧ t = T then l else g.VL p t, CL := fun t p => if c = q ∧ p = q ∧ t = T then l else g.CL t p }
theorem up_refl (l : List E) : UpTo tm l l := .inr ⟨rfl, Nat.le_refl _⟩
theorem vote_le (h : Inv tm n g s) {q c : Int} (hq : In n q) (h0 : (s q).V = 0) (l : List E) : Le n g (vote g q (s q).T c l) := by
  have h00 : g.VT q (s q).T = 0 := by rw [h.vtc q hq]; exact h0
  refine ⟨fun t => List.prefix_rfl, fun _ _ _ => Nat.le_refl _, fun p t hp hv => ?_, fun _ _ => rfl, fun p t hp hv => ?_⟩
  · show (if p = q ∧ t = (s q).T then c else g.VT p t) = _
    rw [if_neg]
    rintro ⟨rfl, rfl⟩
    exact hv h00
  · show (if c = q ∧ p = q ∧ t = (s q).T then l else g.CL t p) = _
    rw [if_neg]
    rintro ⟨_, rfl, rfl⟩
    rw [h00] at hv
    exact in_ne hp hv.symm
/-- A server votes, or stands. -/
theorem Inv.vote (h : Inv tm n g s) {q c : Int} (hq : In n q) (h0 : (s q).V = 0) (hr : (s q).role = 1) (hc : In n c) (hT1 : 1 ≤ (s q).T) (v : Srv E) (hT : v.T = (s q).T) (hV : v.V = c) (hl : v.log = (s q).log) (hC : v.C = (s q).C)
    (hself : c ≠ q → v.role = 1 ∧ g.VT c v.T = c ∧ UpTo tm (g.CL v.T c) v.log) (hstand : c = q → (∀ e ∈ v.log, tm e < v.T) ∧ v.role = 2 ∧ v.votes = [q]) : Inv tm n (Go.Proofs.Ythfofnfkopnbhaa.vote g q v.T c v.log) (upd s q v) := by
  have h00 : g.VT q (s q).T = 0 := by rw [h.vtc q hq]; exact h0
  have eT : ∀ p, (upd s q v p).T = (s p).T := fun p => upd_at s q v (fun x y => x.T = y.T) hT p rfl
  have eL : ∀ p, (upd s q v p).log = (s p).log := fun p => upd_at s q v (fun x y => x.log = y.log) hl p rfl
  have hle := vote_le h hq (c := c) h0 v.log
  rw [← hT] at hle h00
  have hD : ∀ t k, Dead n g s t k → Dead n (Go.Proofs.Ythfofnfkopnbhaa.vote g q v.T c v.log) (upd s q v) t k := fun t k hd => hd.mono (fun p _ => by rw [eT]; exact Int.le_refl _) (fun p _ _ => Nat.le_refl _)
  have vtA : (Go.Proofs.Ythfofnfkopnbhaa.vote g q v.T c v.log).VT q v.T = c := by simp [Go.Proofs.Ythfofnfkopnbhaa.vote]
  have vtB : ∀ p t, ¬ (p = q ∧ t = v.T) → (Go.Proofs.Ythfofnfkopnbhaa.vote g q v.T c v.log).VT p t = g.VT p t := fun p t hn => by simp only [Go.Proofs.Ythfofnfkopnbhaa.vote, if_neg hn]
  have vlA : (Go.Proofs.Ythfofnfkopnbhaa.vote g q v.T c v.log).VL q v.T = v.log := by simp [Go.Proofs.Ythfofnfkopnbhaa.vote]
  have vlB : ∀ p t, ¬ (p = q ∧ t = v.T) → (Go.Proofs.Ythfofnfkopnbhaa.vote g q v.T c v.log).VL p t = g.VL p t := fun p t hn => by simp only [Go.Proofs.Ythfofnfkopnbhaa.vote, if_neg hn]
  have clA : c = q → (Go.Proofs.Ythfofnfkopnbhaa.vote g q v.T c v.log).CL v.T q = v.log := fun e => by simp [Go.Proofs.Ythfofnfkopnbhaa.vote, e]
  have clB : ∀ p t, In n p → g.VT p t = p → (Go.Proofs.Ythfofnfkopnbhaa.vote g q v.T c v.log).CL t p = g.CL t p := fun p t hp hv => hle.cl p t hp hv
  have elA : (Go.Proofs.Ythfofnfkopnbhaa.vote g q v.T c v.log).el = g.el := rfl
  have llA : (Go.Proofs.Ythfofnfkopnbhaa.vote g q v.T c v.log).LL = g.LL := rfl
  have aA : (Go.Proofs.Ythfofnfkopnbhaa.vote g q v.T c v.log).A = g.A := rfl
  have hce := in_ne hc
  -- el T is not q: q has no vote of the term
  have elq : g.el v.T ≠ q := by
    intro e
    obtain ⟨h1, h2⟩ := h.elm v.T (by rw [e]; exact in_ne hq)
    obtain ⟨p, hp, h3, -⟩ := h2.meet h2
    have := h.vself p v.T hp (by rw [h3, e]; exact in_ne hq)
    rw [h3, e, h00] at this
    exact in_ne hq this.symm
  generalize Go.Proofs.Ythfofnfkopnbhaa.vote g q v.T c v.log = g' at *
  refine { t0 := ?_, vt0 := ?_, vtc := ?_, vin := ?_, vself := ?_, vup := ?_, elm := ?_, elp := ?_, el0 := ?_, cand := ?_, lead := ?_, clog := ?_, cLL := ?_, cCL := ?_, cVL := ?_, tLL := ?_, sLL := ?_, tlog := ?_, tCL := ?_, aLL := ?_, a0 := ?_, i1 := ?_, i2 := ?_, i3 := ?_, com := ?_ }
  · intro p hp; rw [eT]; exact h.t0 p hp
  · intro p t hp ht
    rw [eT] at ht
    rw [vtB p t (by rintro ⟨rfl, rfl⟩; omega)]
    exact h.vt0 p t hp ht
  · intro p hp
    by_cases e : p = q
    · subst e; rw [upd_same, vtA, hV]
    · rw [upd_ne s v e, vtB _ _ (fun a => e a.1)]; exact h.vtc p hp
  · intro p t hp hv
    by_cases e : p = q ∧ t = v.T
    · obtain ⟨rfl, rfl⟩ := e; rw [vtA]; exact ⟨hc, by omega⟩
    · rw [vtB p t e] at hv ⊢; exact h.vin p t hp hv
  · intro p t hp hv
    by_cases e : p = q ∧ t = v.T
    · obtain ⟨rfl, rfl⟩ := e
      rw [vtA]
      by_cases ec : c = p
      · rw [ec, vtA, ec]
      · rw [vtB c _ (fun a => ec a.1)]; exact (hself ec).2.1
    · rw [vtB p t e] at hv ⊢
      rw [hle.vt _ t (h.vin p t hp hv).1 (by rw [h.vself p t hp hv]; exact hv)]
      exact h.vself p t hp hv
  · intro p t hp hv
    by_cases e : p = q ∧ t = v.T
    · obtain ⟨rfl, rfl⟩ := e
      rw [vtA, vlA]
      by_cases ec : c = p
      · rw [ec, clA ec]; exact up_refl _
      · rw [clB c _ hc (hself ec).2.1]; exact (hself ec).2.2
    · rw [vtB p t e] at hv ⊢
      rw [vlB p t e, clB _ t (h.vin p t hp hv).1 (h.vself p t hp hv)]
      exact h.vup p t hp hv
  · intro t ht
    rw [elA] at ht ⊢
    obtain ⟨h1, h2⟩ := h.elm t ht
    exact ⟨h1, h2.mono fun p hp hv => by rw [hle.vt p t hp (by rw [hv]; exact ht)]; exact hv⟩
  · intro t ht
    rw [elA] at ht ⊢
    obtain ⟨h1, h2⟩ := h.elm t ht
    obtain ⟨p, hp, h3, -⟩ := h2.meet h2
    have := h.vself p t hp (by rw [h3]; exact ht)
    rw [h3] at this
    rw [clB _ t h1 this, llA]
    exact h.elp t ht
  · intro t ht; rw [llA]; exact h.el0 t (by rw [elA] at ht; exact ht)
  · intro p hp hr2
    by_cases e : p = q
    · subst e
      rw [upd_same] at hr2 ⊢
      have ec : c = p := by
        by_cases ec : c = p
        · exact ec
        · rw [(hself ec).1] at hr2; cases hr2
      obtain ⟨_, _, h3⟩ := hstand ec
      refine ⟨by rw [hV, ec], by rw [elA]; exact elq, (clA ec).symm, by rw [h3]; simp, fun x hx => ?_⟩
      rw [h3] at hx
      simp at hx
      subst hx
      exact ⟨hq, by rw [vtA, ec]⟩
    · rw [upd_ne s v e] at hr2 ⊢
      obtain ⟨h1, h2, h3, h4, h5⟩ := h.cand p hp hr2
      have hvp : g.VT p (s p).T = p := by rw [h.vtc p hp]; exact h1
      refine ⟨h1, by rw [elA]; exact h2, by rw [clB p _ hp hvp]; exact h3, h4, fun x hx => ?_⟩
      obtain ⟨k1, k2⟩ := h5 x hx
      exact ⟨k1, by rw [hle.vt x _ k1 (by rw [k2]; exact in_ne hp)]; exact k2⟩
  · intro p hp hr2
    by_cases e : p = q
    · subst e
      rw [upd_same] at hr2
      by_cases ec : c = p
      · rw [(hstand ec).2.1] at hr2; cases hr2
      · rw [(hself ec).1] at hr2; cases hr2
    · rw [upd_ne s v e] at hr2 ⊢; rw [elA, llA, aA]; exact h.lead p hp hr2
  · intro p hp; rw [eL, llA]; exact h.clog p hp
  · intro t; rw [llA]; exact h.cLL t
  · intro p t hp hv
    rw [llA]
    by_cases e : p = q ∧ t = v.T
    · obtain ⟨rfl, rfl⟩ := e
      rw [vtA] at hv
      rw [clA hv, hl]
      exact h.clog p hp
    · rw [vtB p t e] at hv; rw [clB p t hp hv]; exact h.cCL p t hp hv
  · intro p t hp hv
    rw [llA]
    by_cases e : p = q ∧ t = v.T
    · obtain ⟨rfl, rfl⟩ := e; rw [vlA, hl]; exact h.clog p hp
    · rw [vtB p t e] at hv; rw [vlB p t e]; exact h.cVL p t hp hv
  · intro t e; rw [llA]; exact h.tLL t e
  · intro t; rw [llA]; exact h.sLL t
  · intro p e hp; rw [eL, eT]; exact h.tlog p e hp
  · intro p t e hp hv he
    by_cases e1 : p = q ∧ t = v.T
    · obtain ⟨rfl, rfl⟩ := e1
      rw [vtA] at hv
      rw [clA hv] at he
      exact (hstand hv).1 e he
    · rw [vtB p t e1] at hv; rw [clB p t hp hv] at he; exact h.tCL p t e hp hv he
  · intro p t hp; rw [aA, llA]; exact h.aLL p t hp
  · intro p t hp; rw [eT, aA]; exact h.a0 p t hp
  · intro t' t k a b c; rw [llA] at *; exact (h.i1 t' t k (by rw [elA] at a; exact a) b c).imp id (hD t k)
  · intro p t k hp a b; rw [eL, llA] at *; exact (h.i2 p t k hp (by rw [aA] at a; exact a) b).imp id (hD t k)
  · intro p t' t k hp a b c d
    rw [llA] at *
    rw [aA] at c
    by_cases e : p = q ∧ t' = v.T
    · obtain ⟨rfl, rfl⟩ := e; rw [vlA, hl]; exact (h.i2 p t k hp c d).imp id (hD t k)
    · rw [vtB p t' e] at a; rw [vlB p t' e]; exact (h.i3 p t' t k hp a b c d).imp id (hD t k)
  · intro p hp
    by_cases e : p = q
    · subst e; rw [upd_same, hC, hl, hT]; exact (h.com p hp).le hle
    · rw [upd_ne s v e]; exact (h.com p hp).le hle
end
end Go.Proofs.Ythfofnfkopnbhaa
