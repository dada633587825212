/- disk: files taken away, and put under a name. -/
import Derived.Test.YtcmbeolicopicaaDCut
namespace Go.Proofs.Ytcmbeolicopicaa
open Go.RowKit Go.Maps Go.ChangeMaps
set_option linter.unusedVariables false
set_option linter.unusedSimpArgs false
set_option maxRecDepth 100000

theorem sbk_same {w : World} {m : Nat} {o o' : Obj} (h : w.heap[m]? = some o) : (setBlock w m o').heap[m]? = some o' := by
  have := (Array.getElem?_eq_some_iff.1 h).1
  simp [setBlock, this]
theorem sbk_far {w : World} {m k : Nat} {o' : Obj} (h : k ≠ m) : (setBlock w m o').heap[k]? = w.heap[k]? := by
  simp [setBlock, Array.getElem?_setIfInBounds_ne (fun e => h e.symm)]
theorem sbk_size (w : World) (m : Nat) (o' : Obj) : (setBlock w m o').heap.size = w.heap.size := by simp [setBlock]
/-- Map m alone was turned. -/
structure MapTo (m : Nat) (w w' : World) : Prop where
  os : w'.os = w.os
  tape : w'.tape = w.tape
  output : w'.output = w.output
  size : w'.heap.size = w.heap.size
  far : ∀ k, k ≠ m → w'.heap[k]? = w.heap[k]?
theorem sbk_to (w : World) (m : Nat) (o' : Obj) : MapTo m w (setBlock w m o') := ⟨rfl, rfl, rfl, sbk_size w m o', fun k hk => sbk_far hk⟩
section
variable {B : Nat → Prop} {D n : Nat} {room : Int} {L : List FE} {st : DSt} {w : World} (h : DBs B D room L n st w) (s : Nm) (hs : s.length ≤ 1000000)
include h hs
/-- delete(m, s). -/
theorem DBs.del {f : DF} {j : Nat} (e : fdD st s = some f) (hj : st.fs[j]? = some f) (ty : TypeId) : ∀ W : World, W.heap = w.heap → ∃ W', (Builtin.delete_ #[45, 9] ty #[.map (some st.m), nmV s]).run Try.prog W = .ok (.tuple #[]) W' ∧ MapTo st.m W W' ∧
    ∀ (es : List MapEntry) (ck : Nat), W.heap[st.m]? = some (.map es.toArray ck) → W'.heap[st.m]? = some (.map (es.eraseIdx j).toArray ck) := by
  intro W hW
  obtain ⟨es, ck, h1, h2, h3⟩ := h.dsk.map
  obtain ⟨l, hl⟩ := nmKey s (by unfold maxLen; omega)
  obtain ⟨x, hx, k1, k2⟩ := ent_at h3 hj
  rw [← hW] at h1
  have hfs := (fdD_some e).2
  refine ⟨_, run_del_some (ty := ty) strLaw mapTy h1 h2 hl hx (by rw [k1, hfs]), sbk_to _ _ _, fun es' ck' he => ?_⟩
  rw [h1] at he
  injection he with he
  injection he with he1 he2
  obtain rfl : es = es' := by simpa using he1
  subst he2
  exact sbk_same h1
/-- m[s] = a pointer; s is not in the map. -/
theorem DBs.put_new (hno : ∀ f ∈ st.fs, f.s ≠ s) (v : Value) : ∀ W : World, W.heap = w.heap → ∃ W', (Instr.mapUpdate 45 (.map (some st.m)) (nmV s) v).run Try.prog W = .ok () W' ∧ MapTo st.m W W' ∧
    ∀ (es : List MapEntry) (ck : Nat), W.heap[st.m]? = some (.map es.toArray ck) → W'.heap[st.m]? = some (.map (es ++ [({ key := nmV s, val := v, born := ck } : MapEntry)]).toArray (ck + 1)) := by
  intro W hW
  obtain ⟨es, ck, h1, h2, h3⟩ := h.dsk.map
  obtain ⟨l, hl⟩ := nmKey s (by unfold maxLen; omega)
  rw [← hW] at h1
  refine ⟨_, run_upd_none strLaw mapTy h1 h2 hl (ent_none h3 hno) v, sbk_to _ _ _, fun es' ck' he => ?_⟩
  rw [h1] at he
  injection he with he
  injection he with he1 he2
  obtain rfl : es = es' := by simpa using he1
  subst he2
  exact sbk_same h1
/-- .. s is in the map. -/
theorem DBs.put_old {f : DF} {j : Nat} (e : fdD st s = some f) (hj : st.fs[j]? = some f) (v : Value) : ∀ W : World, W.heap = w.heap → ∃ W', (Instr.mapUpdate 45 (.map (some st.m)) (nmV s) v).run Try.prog W = .ok () W' ∧ MapTo st.m W W' ∧
    ∀ (es : List MapEntry) (ck : Nat) (x : MapEntry), W.heap[st.m]? = some (.map es.toArray ck) → es[j]? = some x → W'.heap[st.m]? = some (.map (es.set j { x with val := v }).toArray ck) := by
  intro W hW
  obtain ⟨es, ck, h1, h2, h3⟩ := h.dsk.map
  obtain ⟨l, hl⟩ := nmKey s (by unfold maxLen; omega)
  obtain ⟨x, hx, k1, k2⟩ := ent_at h3 hj
  rw [← hW] at h1
  have hfs := (fdD_some e).2
  refine ⟨_, run_upd_some strLaw mapTy h1 h2 hl hx (by rw [k1, hfs]) v, sbk_to _ _ _, fun es' ck' x' he hx' => ?_⟩
  rw [h1] at he
  injection he with he
  injection he with he1 he2
  obtain rfl : es = es' := by simpa using he1
  subst he2
  rw [hx] at hx'
  injection hx' with hx'
  subst hx'
  exact sbk_same h1
end
end Go.Proofs.Ytcmbeolicopicaa
