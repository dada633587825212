/- disk: DiskSafe's state through each step, in plain terms; maps as functions. -/
import Derived.Test.YtcmbeolicopicaaDSafe3
namespace Go.Proofs.Ytcmbeolicopicaa
open Go.RowKit Go.Maps Go.ChangeMaps
set_option linter.unusedVariables false
set_option linter.unusedSectionVars false
set_option linter.unusedSimpArgs false
set_option maxRecDepth 100000

theorem pw_set {L : List (Nm × Value)} (hd : L.Pairwise fun a b => a.1 ≠ b.1) {j : Nat} {s : Nm} {u : Value} (hj : L[j]? = some (s, u)) (v : Value) : (L.set j (s, v)).Pairwise fun a b => a.1 ≠ b.1 := by
  have hlt := (List.getElem?_eq_some_iff.1 hj).1
  have h1 : (L.set j (s, v)).map Prod.fst = L.map Prod.fst := by
    refine List.ext_getElem? fun i => ?_
    rw [List.getElem?_map, List.getElem?_map, List.getElem?_set]
    by_cases hi : j = i
    · subst hi; rw [if_pos rfl, if_pos hlt, hj]; rfl
    · rw [if_neg hi]
  have h2 : (L.map Prod.fst).Pairwise (· ≠ ·) := List.pairwise_map.2 hd
  rw [← h1] at h2
  exact List.pairwise_map.1 h2
/-- Map m tells this. -/
def Mf (w : World) (m : Nat) (φ : Nm → Option Value) : Prop := ∃ L, Mp w m L ∧ (L.Pairwise fun a b => a.1 ≠ b.1) ∧ ∀ s, (mpF L s).map Prod.snd = φ s
def upF (φ : Nm → Option Value) (s : Nm) (v : Value) : Nm → Option Value := fun t => if t = s then some v else φ t
theorem Mf.keep {w w' : World} {m : Nat} {φ : Nm → Option Value} (h : Mf w m φ) (e : w'.heap[m]? = w.heap[m]?) : Mf w' m φ := by
  obtain ⟨L, h1, h2, h3⟩ := h
  exact ⟨L, h1.keep e, h2, h3⟩
theorem Mf.lt {w : World} {m : Nat} {φ : Nm → Option Value} (h : Mf w m φ) : m < w.heap.size := by
  obtain ⟨L, ⟨es, ck, h1, _⟩, _⟩ := h
  exact (Array.getElem?_eq_some_iff.1 h1).1
section
variable {t et : TypeId} (ht : Try.prog.underlying t = some (.map 9 et)) {w : World} {m : Nat} {φ : Nm → Option Value} (h : Mf w m φ) (s : Nm) (hs : s.length ≤ 1000000)
include ht h hs
theorem Mf.look {z : Value} (hz : ∀ W : World, (zeroValue et).run Try.prog W = .ok z W) : (Instr.lookup t (.map (some m)) (nmV s) false).run Try.prog w = .ok ((φ s).getD z) w := by
  obtain ⟨L, h1, h2, h3⟩ := h
  rw [← h3 s]
  exact h1.look ht s hs hz
theorem Mf.upd (v : Value) : ∃ W', (Instr.mapUpdate t (.map (some m)) (nmV s) v).run Try.prog w = .ok () W' ∧ MapTo m w W' ∧ Mf W' m (upF φ s v) := by
  obtain ⟨L, h1, h2, h3⟩ := h
  cases hr : mpF L s with
  | none =>
    obtain ⟨W', q1, q2, q3⟩ := h1.upd_new ht s hs hr v
    refine ⟨W', q1, q2, _, q3, ?_, fun t => ?_⟩
    · refine List.pairwise_append.2 ⟨h2, List.pairwise_singleton _ _, fun a ha b hb => ?_⟩
      simp at hb
      subst hb
      have := List.find?_eq_none.1 hr a ha
      simpa using this
    · rw [mpF_push hr, upF]
      split
      · rfl
      · exact h3 t
  | some p =>
    have hm := List.mem_of_find?_eq_some hr
    have hp : p.1 = s := by have := List.find?_some hr; simpa using this
    obtain ⟨j, hj⟩ := List.mem_iff_getElem?.1 hm
    obtain ⟨p1, p2⟩ := p
    simp at hp
    subst hp
    obtain ⟨W', q1, q2, q3⟩ := h1.upd_old ht p1 hs hj v
    refine ⟨W', q1, q2, _, q3, pw_set h2 hj v, fun t => ?_⟩
    rw [mpF_set h2 hj, upF]
    split
    · rfl
    · exact h3 t
end
/-- The files L, the names ns in the order of their coming, the maps all and safe; k steps done. -/
structure Sq (L : List FE) (ns : List Nm) (al sl : Nm → Option Value) (k : Nat) : Prop where
  srt : Srt L
  nd : ns.Nodup
  mem : ∀ s, s ∈ ns ↔ ∃ g, fd L s = some g
  rng : ∀ f ∈ L, ∀ x ∈ f.l, 0 ≤ x ∧ x < 256
  al : ∀ s, al s = (fd L s).map fun f => nmV (tB f.l)
  sl : ∀ s, (sl s).getD (.int .i64 0) = .int .i64 (((fd L s).map FE.n).getD 0 : Nat)
  nl : ∀ f ∈ L, f.n ≤ f.l.length
  few : ns.length ≤ k
  used : usedF L ≤ 400 * k
  nm : ∀ s ∈ ns, s.length ≤ 24
theorem le_sum_mem : ∀ {l : List Nat} {x : Nat}, x ∈ l → x ≤ l.sum
  | y :: l, x, h => by
    rcases List.mem_cons.1 h with rfl | h
    · simp
    · have := le_sum_mem h
      simp
      omega
theorem Sq.start : Sq [] [] (fun _ => none) (fun _ => none) 0 := ⟨List.Pairwise.nil, List.nodup_nil, fun s => by simp [fd], fun _ h => (by cases h), fun _ => rfl, fun _ => rfl, fun _ h => (by cases h), Nat.le_refl _, Nat.le_refl _, fun _ h => (by cases h)⟩
section
variable {L : List FE} {ns : List Nm} {al sl : Nm → Option Value} {k : Nat} (h : Sq L ns al sl k)
include h
theorem Sq.old (s : Nm) : (al s).getD (nmV []) = nmV (tB (oldF L s)) := by
  rw [h.al s]
  unfold oldF
  cases fd L s <;> rfl
theorem Sq.len (s : Nm) : (tB (oldF L s)).length ≤ 400 * k := by
  unfold oldF tB
  rw [List.length_map]
  cases e : fd L s with
  | none => exact Nat.zero_le _
  | some g =>
    obtain ⟨hg, _⟩ := fd_some e
    refine Nat.le_trans ?_ h.used
    unfold usedF
    exact le_sum_mem (List.mem_map.2 ⟨g, hg, rfl⟩)
theorem Sq.sync_in {s : Nm} {g : FE} (e : fd L s = some g) : Sq (putF L ⟨g.s, g.l, g.l.length⟩) ns al (upF sl s (.int .i64 (g.l.length : Nat))) (k + 1) := by
  obtain ⟨hg, rfl⟩ := fd_some e
  have hfd := fd_putF h.srt ⟨g.s, g.l, g.l.length⟩
  refine ⟨srt_putF h.srt _, h.nd, fun t => ?_, fun f hf => ?_, fun t => ?_, fun t => ?_, fun f hf => ?_, by have := h.few; omega, ?_, h.nm⟩
  · rw [h.mem t, hfd t]
    by_cases ht : t = g.s
    · rw [ht, if_pos rfl, e]; simp
    · rw [if_neg ht]
  · rcases mem_putF.1 hf with rfl | ⟨hf, _⟩
    · exact h.rng g hg
    · exact h.rng f hf
  · rw [h.al t, hfd t]
    by_cases ht : t = g.s
    · rw [ht, if_pos rfl, e]; rfl
    · rw [if_neg ht]
  · rw [hfd t, upF]
    by_cases ht : t = g.s
    · rw [ht, if_pos rfl, if_pos rfl]; rfl
    · rw [if_neg ht, if_neg ht]; exact h.sl t
  · rcases mem_putF.1 hf with rfl | ⟨hf, _⟩
    · exact Nat.le_refl _
    · exact h.nl f hf
  · have := used_putF h.srt ⟨g.s, g.l, g.l.length⟩
    rw [e] at this
    simp at this
    have := h.used
    omega
theorem Sq.sync_out {s : Nm} (e : fd L s = none) : Sq L ns al (upF sl s (.int .i64 (0 : Nat))) (k + 1) := by
  refine ⟨h.srt, h.nd, h.mem, h.rng, h.al, fun t => ?_, h.nl, by have := h.few; omega, by have := h.used; omega, h.nm⟩
  rw [upF]
  by_cases ht : t = s
  · rw [ht, if_pos rfl, e]; rfl
  · rw [if_neg ht]; exact h.sl t
theorem Sq.app_ok {s : Nm} {u : Nm} (hok : okN s = true) (hu : u.length ≤ 400) (hk : k ≤ 100) : appE 1048576 L s (bI u) = 0 := by
  have h1 := h.len s
  unfold tB at h1
  rw [List.length_map] at h1
  have h2 := h.used
  unfold appE
  rw [hok, if_neg (by simp), if_neg (by simp [bI]; omega), if_neg (by simp [bI]; omega)]
theorem Sq.app {s : Nm} {u : Nm} (hok : okN s = true) (hs : s.length ≤ 24) (hu : u.length ≤ 400) (hk : k ≤ 100) : Sq (appL 1048576 L s (bI u)) (if s ∈ ns then ns else ns ++ [s]) (upF al s (nmV (tB (oldF L s) ++ u))) sl (k + 1) := by
  have hL : appL 1048576 L s (bI u) = putF L ⟨s, oldF L s ++ bI u, oldN L s⟩ := by unfold appL; rw [if_pos (h.app_ok hok hu hk)]
  rw [hL]
  have hfd := fd_putF h.srt ⟨s, oldF L s ++ bI u, oldN L s⟩
  have hro : ∀ x ∈ oldF L s, 0 ≤ x ∧ x < 256 := by
    intro x hx
    unfold oldF at hx
    cases e : fd L s with
    | none => rw [e] at hx; cases hx
    | some g => rw [e] at hx; exact h.rng g (fd_some e).1 x hx
  have hno : oldN L s ≤ (oldF L s).length := by
    unfold oldN oldF
    cases e : fd L s with
    | none => exact Nat.zero_le _
    | some g => exact h.nl g (fd_some e).1
  have hrb : ∀ x ∈ bI u, 0 ≤ x ∧ x < 256 := by
    intro x hx
    unfold bI at hx
    obtain ⟨y, _, rfl⟩ := List.mem_map.1 hx
    have := y.toNat_lt
    omega
  refine ⟨srt_putF h.srt _, ?_, fun t => ?_, fun f hf => ?_, fun t => ?_, fun t => ?_, fun f hf => ?_, ?_, ?_, fun t ht => ?_⟩
  · split
    · exact h.nd
    · next hn => exact List.nodup_append.2 ⟨h.nd, by simp, fun a ha b hb => by simp at hb; subst hb; exact fun q => hn (q ▸ ha)⟩
  · rw [hfd t]
    by_cases ht : t = s
    · subst ht
      rw [if_pos rfl]
      split
      · next hm => simp [hm]
      · simp
    · rw [if_neg ht, ← h.mem t]
      split
      · rfl
      · simp [ht]
  · rcases mem_putF.1 hf with rfl | ⟨hf, _⟩
    · intro x hx
      rcases List.mem_append.1 hx with hx | hx
      · exact hro x hx
      · exact hrb x hx
    · exact h.rng f hf
  · rw [hfd t, upF]
    by_cases ht : t = s
    · rw [if_pos ht, if_pos ht]
      simp only [Option.map_some]
      rw [show tB (oldF L s ++ bI u) = tB (oldF L s) ++ u by rw [show tB (oldF L s ++ bI u) = tB (oldF L s) ++ tB (bI u) from List.map_append, tB_bI]]
    · rw [if_neg ht, if_neg ht]; exact h.al t
  · rw [hfd t]
    by_cases ht : t = s
    · rw [if_pos ht, ht, h.sl s]
      unfold oldN
      cases fd L s <;> rfl
    · rw [if_neg ht]; exact h.sl t
  · rcases mem_putF.1 hf with rfl | ⟨hf, _⟩
    · simp only [List.length_append]; omega
    · exact h.nl f hf
  · have := h.few
    split
    · omega
    · simp; omega
  · have h1 := used_putF h.srt ⟨s, oldF L s ++ bI u, oldN L s⟩
    have h2 := h.used
    have h3 : ((fd L s).map fun g => g.l.length).getD 0 = (oldF L s).length := by
      unfold oldF
      cases fd L s <;> rfl
    simp only [h3, List.length_append] at h1
    have h4 : (bI u).length = u.length := by simp [bI]
    omega
  · split at ht
    · exact h.nm t ht
    · rcases List.mem_append.1 ht with ht | ht
      · exact h.nm t ht
      · simp at ht; subst ht; exact hs
theorem Sq.perm : ns.Perm (L.map FE.s) := by
  refine (List.perm_ext_iff_of_nodup h.nd ?_).2 fun s => ?_
  · exact List.pairwise_map.2 h.srt.dis
  · rw [h.mem s]
    constructor
    · rintro ⟨g, hg⟩
      obtain ⟨h1, rfl⟩ := fd_some hg
      exact List.mem_map.2 ⟨g, h1, rfl⟩
    · intro hs
      obtain ⟨g, hg, rfl⟩ := List.mem_map.1 hs
      exact ⟨g, fd_mem h.srt.dis hg⟩
theorem Sq.count : L.length = ns.length := by
  have := h.perm.length_eq
  rw [List.length_map] at this
  exact this.symm
end
end Go.Proofs.Ytcmbeolicopicaa

