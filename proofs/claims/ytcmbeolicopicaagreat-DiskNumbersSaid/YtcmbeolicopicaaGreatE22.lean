/- disk: the law's same. -/
import Derived.Test.YtcmbeolicopicaaGreatE17
import Derived.Test.YtcmbeolicopicaaGreatZ13
namespace Go.Proofs.YtcmbeolicopicaaGreat
open Go.RowKit Go.Maps Go.ChangeMaps
set_option linter.unusedVariables false
set_option linter.unusedSectionVars false
set_option linter.unusedSimpArgs false
set_option maxRecDepth 100000

/-- Bytes that were told. -/
structure TV where
  A : Option Addr
  c : Nat
  l : List Int
def TV.val (p : TV) : Value := .slice p.A p.l.length p.c
def TV.fs (p : TV) : Fs := ⟨p.val, (p.A.map Addr.block).getD 0, p.l.length⟩
def tvC (T : List TV) (k : Nat) : List Value := match T[k]? with | some p => u8s p.l | none => []
/-- All that was told, in a row of the call's own. -/
structure TI (N0 : Nat) (T : List TV) (v : Value) (w : World) : Prop where
  row : w.ownsRow N0 29 1 v T.length (T.map TV.val)
  dat : ∀ p ∈ T, Dat w (fun b => N0 ≤ b) p.A p.c p.l
  sep : T.Pairwise fun p q => ∀ b, p.val.ownBlock = some b → q.val.ownBlock ≠ some b
  len : ∀ p ∈ T, p.l.length ≤ 1000000
theorem Dat.own_ {w : World} {K : Nat → Prop} {A : Option Addr} {c : Nat} {l : List Int} (h : Dat w K A c l) : ∀ b, (Value.slice A l.length c).ownBlock = some b → K b ∧ b < w.heap.size ∧ UB w b := by
  intro b e
  obtain ⟨b', h1, h2⟩ := h.narrow
  rcases h1.2 with ⟨q, _⟩ | ⟨cap, cur, q, hg, _⟩
  · rw [q] at e; cases e
  · have e2 := h2 (by rw [q]; rfl)
    rw [q] at e
    have e : b' = b := Option.some.inj e
    subst e
    exact ⟨e2.1.1, e2.2, e2.1.2⟩
theorem Dat.row_ {w : World} {K : Nat → Prop} {A : Option Addr} {c : Nat} {l : List Int} (h : Dat w K A c l) : Row w 5 1 (.slice A l.length c) ((A.map Addr.block).getD 0) l.length (u8s l) := by
  obtain ⟨b, h1, h2⟩ := h
  rcases h1.2 with ⟨e1, e2⟩ | ⟨cap, cur, e1, hg, h3, h4, h5, h6⟩
  · injection e1 with e1 e3 e4
    subst e1 e4
    have : l = [] := List.eq_nil_of_length_eq_zero e2
    subst this
    exact Row.nil _ _ _ _
  · injection e1 with e1 e3 e4
    subst e1 e4
    exact ⟨h1.1, .inr ⟨c, cur, rfl, hg, h3, h4, h5, h6⟩⟩
theorem TI.nil (N0 : Nat) (w : World) : TI N0 [] (.slice none 0 0) w := ⟨⟨rfl, .inl ⟨rfl, rfl⟩⟩, (fun p hp => by cases hp), List.Pairwise.nil, (fun p hp => by cases hp)⟩
theorem TI.below {N0 : Nat} {T : List TV} {v : Value} {w w' : World} (h : TI N0 T v w) (hb : Below w.heap.size w w') : TI N0 T v w' :=
  ⟨owns_keep h.row (fun g e => hb.block g (owns_lt h.row g e)), fun p hp => (h.dat p hp).below hb, h.sep, h.len⟩
theorem owns_ty {w : World} {base e size n : Nat} {v : Value} {xs : List Value} (h : w.ownsRow base e size v n xs) (g : Nat) (hg : v.ownBlock = some g) : ∃ cur, w.heap[g]? = some (.cells cur e (0, 0)) := by
  rcases h.2 with ⟨q, _⟩ | ⟨g', cap, cur, q, _, hb, _⟩
  · rw [q] at hg; cases hg
  · rw [q] at hg
    have e : g' = g := Option.some.inj hg
    exact ⟨cur, e ▸ hb⟩
/-- One more. -/
theorem TI.push {N0 : Nat} {T : List TV} {v v' : Value} {w w1 w2 : World} {p : TV} (h : TI N0 T v w) (hN : N0 ≤ w.heap.size) (hb : Below w.heap.size w w1) (hd : Dat w1 (fun b => w.heap.size ≤ b) p.A p.c p.l) (hl : p.l.length ≤ 1000000) (hg : w1.grownBy w2 v.ownBlock)
    (hr : w2.ownsRow N0 29 1 v' (T.length + 1) (T.map TV.val ++ [p.val])) : TI N0 (T ++ [p]) v' w2 := by
  have hub : ∀ b, b < w1.heap.size → UB w1 b → w2.heap[b]? = w1.heap[b]? := fun b h1 h2 => hg.block b h1 fun e => by
    obtain ⟨cur, hc⟩ := owns_ty (h.below hb).row b e.symm
    exact ub_ne h2 hc (by decide) rfl
  refine ⟨by rw [List.length_append, List.map_append]; exact hr, fun q hq => ?_, ?_, fun q hq => ?_⟩
  · rcases List.mem_append.1 hq with hq | hq
    · exact ((h.below hb).dat q hq).narrow.keep (fun b k hl => hub b hl k.2) hg.size (fun b k _ => k.1)
    · simp at hq
      subst hq
      exact hd.narrow.keep (fun b k hl => hub b hl k.2) hg.size (fun b k _ => Nat.le_trans hN k.1)
  · refine List.pairwise_append.2 ⟨h.sep, List.pairwise_singleton _ _, fun a ha b hb' q e1 e2 => ?_⟩
    simp at hb'
    subst hb'
    have h1 := (Dat.own_ (h.dat a ha) q e1).2.1
    have h2 := (Dat.own_ hd q e2).1
    omega
  · rcases List.mem_append.1 hq with hq | hq
    · exact h.len q hq
    · simp at hq
      subst hq
      exact hl
/-- What was told lies apart. -/
theorem TI.apart {N0 : Nat} {T : List TV} {v : Value} {w : World} (h : TI N0 T v w) : ∃ A c, v = .slice A (T.map TV.fs).length c ∧ Fl w 5 1 (fun b => ∃ p ∈ T, p.val.ownBlock = some b) (T.map TV.fs) (tvC T) ∧ Outer w (fun b => ∃ p ∈ T, p.val.ownBlock = some b) A c (T.map TV.fs) ∧ ∀ b, (∃ p ∈ T, p.val.ownBlock = some b) → N0 ≤ b ∧ b < w.heap.size := by
  obtain ⟨A, c, rfl⟩ := owns_form h.row
  have hsb : ∀ b, (∃ p ∈ T, p.val.ownBlock = some b) → N0 ≤ b ∧ b < w.heap.size ∧ UB w b := by
    rintro b ⟨p, hp, e⟩
    exact Dat.own_ (h.dat p hp) b e
  have hmap : (T.map TV.fs).map (·.v) = T.map TV.val := by rw [List.map_map]; rfl
  have hne := owns_none h.row
  refine ⟨A, c, by rw [List.length_map], ⟨fun k x hx => ?_, fun k x hx ho => ?_, fun k k' x x' hx hx' hn ho ho' => ?_⟩, ⟨?_, ?_, ?_⟩, fun b q => ⟨(hsb b q).1, (hsb b q).2.1⟩⟩
  · rw [List.getElem?_map] at hx
    obtain ⟨p, hp, rfl⟩ := Option.map_eq_some_iff.1 hx
    have := (h.dat p (List.mem_of_getElem? hp)).row_
    unfold tvC
    rw [hp]
    exact this
  · rw [List.getElem?_map] at hx
    obtain ⟨p, hp, rfl⟩ := Option.map_eq_some_iff.1 hx
    have hm := List.mem_of_getElem? hp
    exact ⟨⟨p, hm, ho⟩, (hsb _ ⟨p, hm, ho⟩).2.1⟩
  · rw [List.getElem?_map] at hx hx'
    obtain ⟨p, hp, rfl⟩ := Option.map_eq_some_iff.1 hx
    obtain ⟨p', hp', rfl⟩ := Option.map_eq_some_iff.1 hx'
    intro e
    have hps := List.pairwise_iff_getElem.1 h.sep
    obtain ⟨l1, q1⟩ := List.getElem?_eq_some_iff.1 hp
    obtain ⟨l2, q2⟩ := List.getElem?_eq_some_iff.1 hp'
    rcases Nat.lt_trichotomy k k' with q | q | q
    · exact hps k k' l1 l2 q _ (by rw [q1]; exact ho) (by rw [q2, e]; exact ho')
    · exact hn q
    · exact hps k' k l2 l1 q _ (by rw [q2]; exact ho') (by rw [q1, ← e]; exact ho)
  · rw [hmap]
    refine ⟨fun e => (hne.1 e).2, fun hn => ?_⟩
    cases A with
    | none =>
      have := (hne.1 rfl).1
      exact absurd (by rw [List.eq_nil_of_length_eq_zero this]; rfl) hn
    | some ad =>
      obtain ⟨g, rfl⟩ := hne.2 ad rfl
      refine ⟨_, rfl, ⟨fun q => ?_, owns_lt h.row g rfl⟩, owns_cells h.row _ rfl⟩
      obtain ⟨cur, hc⟩ := owns_ty h.row g rfl
      exact ub_ne (hsb g q).2.2 hc (by decide) rfl
  · rw [List.length_map]
    rcases h.row.2 with ⟨q, q2⟩ | ⟨g', cap, cur, q, _, _, q2, _⟩
    · injection q with _ _ q; omega
    · injection q with _ _ q; omega
  · rcases h.row.2 with ⟨q, q2⟩ | ⟨g', cap, cur, q, _, _, q2, q3, _⟩
    · injection q with _ _ q; rw [q]; decide
    · injection q with _ _ q; rw [q]; exact q3
end Go.Proofs.YtcmbeolicopicaaGreat

