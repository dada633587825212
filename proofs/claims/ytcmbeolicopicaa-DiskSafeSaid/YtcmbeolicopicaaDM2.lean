/- disk: maps from texts, known by a list. -/
import Derived.Test.YtcmbeolicopicaaDPick
namespace Go.Proofs.Ytcmbeolicopicaa
open Go.RowKit Go.Maps Go.ChangeMaps
set_option linter.unusedVariables false
set_option linter.unusedSimpArgs false
set_option maxRecDepth 100000

/-- Map m holds these. -/
def Mp (w : World) (m : Nat) (L : List (Nm × Value)) : Prop := ∃ es ck, w.heap[m]? = some (.map es.toArray ck) ∧ EsOk Try.prog 9 es ck ∧ es.map (fun e => (e.key, e.val)) = L.map fun p => (nmV p.1, p.2)
def mpF (L : List (Nm × Value)) (s : Nm) : Option (Nm × Value) := L.find? fun p => decide (p.1 = s)
theorem Mp.keep {w w' : World} {m : Nat} {L : List (Nm × Value)} (h : Mp w m L) (e : w'.heap[m]? = w.heap[m]?) : Mp w' m L := by
  obtain ⟨es, ck, h1, h2, h3⟩ := h
  exact ⟨es, ck, e.trans h1, h2, h3⟩
theorem mp_at {es : List MapEntry} {L : List (Nm × Value)} (h : es.map (fun e => (e.key, e.val)) = L.map fun p => (nmV p.1, p.2)) {j : Nat} {p : Nm × Value} (hj : L[j]? = some p) : ∃ e, es[j]? = some e ∧ e.key = nmV p.1 ∧ e.val = p.2 := by
  have h1 := congrArg (fun l => l[j]?) h
  simp only [List.getElem?_map, hj, Option.map_some] at h1
  cases h2 : es[j]? with
  | none => rw [h2] at h1; cases h1
  | some e =>
    rw [h2] at h1
    simp at h1
    exact ⟨e, rfl, h1⟩
theorem mp_none {es : List MapEntry} {L : List (Nm × Value)} (h : es.map (fun e => (e.key, e.val)) = L.map fun p => (nmV p.1, p.2)) {s : Nm} (hno : mpF L s = none) : ∀ e ∈ es, e.key ≠ nmV s := by
  intro e he hk
  have h1 : (e.key, e.val) ∈ L.map fun p => (nmV p.1, p.2) := by rw [← h]; exact List.mem_map.2 ⟨e, he, rfl⟩
  obtain ⟨p, hp, q⟩ := List.mem_map.1 h1
  injection q with q1 q2
  have := List.find?_eq_none.1 hno p hp
  simp at this
  exact this (nmV_inj (q1.trans hk))
section
variable {t et : TypeId} (ht : Try.prog.underlying t = some (.map 9 et)) {w : World} {m : Nat} {L : List (Nm × Value)} (h : Mp w m L) (s : Nm) (hs : s.length ≤ 1000000)
include ht h hs
theorem Mp.look {z : Value} (hz : ∀ W : World, (zeroValue et).run Try.prog W = .ok z W) : (Instr.lookup t (.map (some m)) (nmV s) false).run Try.prog w = .ok (((mpF L s).map Prod.snd).getD z) w := by
  obtain ⟨es, ck, h1, h2, h3⟩ := h
  obtain ⟨l, hl⟩ := nmKey s (by unfold maxLen; omega)
  cases hr : mpF L s with
  | none => exact run_look_none strLaw ht h1 h2 hl (mp_none h3 hr) (hz w)
  | some p =>
    have hm := List.mem_of_find?_eq_some hr
    have hp : p.1 = s := by have := List.find?_some hr; simpa using this
    obtain ⟨j, hj⟩ := List.mem_iff_getElem?.1 hm
    obtain ⟨e, he, k1, k2⟩ := mp_at h3 hj
    rw [run_look_some strLaw ht h1 h2 hl he (by rw [k1, hp]), k2]
    rfl
theorem Mp.upd_new (hno : mpF L s = none) (v : Value) : ∃ W', (Instr.mapUpdate t (.map (some m)) (nmV s) v).run Try.prog w = .ok () W' ∧ MapTo m w W' ∧ Mp W' m (L ++ [(s, v)]) := by
  obtain ⟨es, ck, h1, h2, h3⟩ := h
  obtain ⟨l, hl⟩ := nmKey s (by unfold maxLen; omega)
  exact ⟨_, run_upd_none strLaw ht h1 h2 hl (mp_none h3 hno) v, sbk_to _ _ _, _, _, sbk_same h1, h2.push hl (mp_none h3 hno) _, by simp [h3]⟩
theorem Mp.upd_old {j : Nat} {u : Value} (hj : L[j]? = some (s, u)) (v : Value) : ∃ W', (Instr.mapUpdate t (.map (some m)) (nmV s) v).run Try.prog w = .ok () W' ∧ MapTo m w W' ∧ Mp W' m (L.set j (s, v)) := by
  obtain ⟨es, ck, h1, h2, h3⟩ := h
  obtain ⟨l, hl⟩ := nmKey s (by unfold maxLen; omega)
  obtain ⟨e, he, k1, k2⟩ := mp_at h3 hj
  refine ⟨_, run_upd_some strLaw ht h1 h2 hl he k1 v, sbk_to _ _ _, _, _, sbk_same h1, h2.set he _, ?_⟩
  refine List.ext_getElem? fun i => ?_
  have h3i := congrArg (fun l => l[i]?) h3
  simp only [List.getElem?_map] at h3i
  rw [List.getElem?_map, List.getElem?_map, List.getElem?_set, List.getElem?_set]
  by_cases hi : j = i
  · subst hi
    rw [if_pos rfl, if_pos rfl, if_pos (List.getElem?_eq_some_iff.1 hj).1, if_pos (List.getElem?_eq_some_iff.1 he).1]
    simp [k1]
  · rw [if_neg hi, if_neg hi]
    exact h3i
end
end Go.Proofs.Ytcmbeolicopicaa

