/- A map's block, known by its list of entries: reading and writing one. Of no program. -/
import Derived.Test.YthfofnfkopnbhaaProg
import Derived.Maps.OwnOps
import Derived.DeepKeys4
import Derived.WalkKit
import Derived.Lib.Hide
namespace Go.Proofs.Ythfofnfkopnbhaa
open Go.RowKit Go.Maps Go.ChangeMaps
set_option linter.unusedVariables false
set_option maxRecDepth 100000

/-- Entries, each of a key that can be one, no key twice, no stamp twice. -/
structure EsOk (P : Program) (kt : TypeId) (es : List MapEntry) (clock : Nat) : Prop where
  keys : ∀ e ∈ es, ∃ l, keyOf P kt e.key = some l
  apart : es.Pairwise fun x y => x.key ≠ y.key
  born : ∀ e ∈ es, e.born < clock
  bapart : es.Pairwise fun x y => x.born ≠ y.born
theorem EsOk.nil (P : Program) (kt : TypeId) : EsOk P kt [] 0 := ⟨(fun _ h => by cases h), .nil, (fun _ h => by cases h), .nil⟩
section
variable {P : Program} {t kt et : TypeId} {w : World} {m clock : Nat} {es : List MapEntry} {x : Value} {l : Lit}
theorem find_some (K : Keyed P kt) (hes : EsOk P kt es clock) (hx : keyOf P kt x = some l) {j : Nat} {e : MapEntry} (hj : es[j]? = some e) (he : e.key = x) : (Instr.findKey kt x es).run P w = .ok (some (j, e.val)) w := by
  rcases K.find w hx es hes.keys with ⟨_, h2⟩ | ⟨j', e', h1, h2, h3⟩
  · exact absurd he (h2 e (List.mem_of_getElem? hj))
  · have : j' = j := by
      rcases Nat.lt_trichotomy j' j with h | h | h
      · obtain ⟨h4, h5⟩ := List.getElem?_eq_some_iff.1 h2
        obtain ⟨h6, h7⟩ := List.getElem?_eq_some_iff.1 hj
        exact absurd (by rw [h5, h7, h3, he]) (List.pairwise_iff_getElem.1 hes.apart j' j h4 h6 h)
      · exact h
      · obtain ⟨h4, h5⟩ := List.getElem?_eq_some_iff.1 h2
        obtain ⟨h6, h7⟩ := List.getElem?_eq_some_iff.1 hj
        exact absurd (by rw [h5, h7, h3, he]) (List.pairwise_iff_getElem.1 hes.apart j j' h6 h4 h)
    subst this
    rw [hj] at h2
    injection h2 with h2
    subst h2
    exact h1
theorem find_none (K : Keyed P kt) (hes : EsOk P kt es clock) (hx : keyOf P kt x = some l) (hno : ∀ e ∈ es, e.key ≠ x) : (Instr.findKey kt x es).run P w = .ok none w := by
  rcases K.find w hx es hes.keys with ⟨h1, _⟩ | ⟨j', e', h1, h2, h3⟩
  · exact h1
  · exact absurd h3 (hno e' (List.mem_of_getElem? h2))
/-- m[x], x in the map. -/
theorem run_look_some (K : Keyed P kt) (ht : P.underlying t = some (.map kt et)) (hb : w.heap[m]? = some (.map es.toArray clock)) (hes : EsOk P kt es clock) (hx : keyOf P kt x = some l) {j : Nat} {e : MapEntry} (hj : es[j]? = some e) (he : e.key = x) :
    (Instr.lookup t (.map (some m)) x false).run P w = .ok e.val w := by
  simp [Instr.lookup, run_underlying ht, MapKept.run_getObj_map hb, K.check w _ hx, find_some K hes hx hj he, Result.andThen]
/-- m[x], x not in the map. -/
theorem run_look_none (K : Keyed P kt) (ht : P.underlying t = some (.map kt et)) (hb : w.heap[m]? = some (.map es.toArray clock)) (hes : EsOk P kt es clock) (hx : keyOf P kt x = some l) (hno : ∀ e ∈ es, e.key ≠ x) {z : Value} (hz : (zeroValue et).run P w = .ok z w) :
    (Instr.lookup t (.map (some m)) x false).run P w = .ok z w := by
  simp [Instr.lookup, run_underlying ht, MapKept.run_getObj_map hb, K.check w _ hx, find_none K hes hx hno, hz, Result.andThen]
/-- m[x] = v, x in the map. -/
theorem run_upd_some (K : Keyed P kt) (ht : P.underlying t = some (.map kt et)) (hb : w.heap[m]? = some (.map es.toArray clock)) (hes : EsOk P kt es clock) (hx : keyOf P kt x = some l) {j : Nat} {e : MapEntry} (hj : es[j]? = some e) (he : e.key = x) (v : Value) :
    (Instr.mapUpdate t (.map (some m)) x v).run P w = .ok () (setBlock w m (.map (es.set j { e with val := v }).toArray clock)) := by
  have e2 : es.modify j (fun e => { e with key := x, val := v }) = es.set j { e with key := x, val := v } := by
    apply List.ext_getElem?
    intro i
    rw [List.getElem?_modify, List.getElem?_set]
    by_cases h : j = i
    · subst h
      rw [if_pos rfl, hj, if_pos (List.getElem?_eq_some_iff.1 hj).1]
      simp
    · rw [if_neg h]; simp [h]
  subst he
  simp [Instr.mapUpdate, run_underlying ht, MapKept.run_getObj_map hb, K.check w _ hx, find_some K hes hx hj rfl, K.stays w hx, MapKept.run_setObj_map _ hb, Result.andThen, setBlock, hj, e2]
/-- delete(m, x), x in the map. -/
theorem run_del_some {ty : TypeId} (K : Keyed P kt) (ht : P.underlying t = some (.map kt et)) (hb : w.heap[m]? = some (.map es.toArray clock)) (hes : EsOk P kt es clock) (hx : keyOf P kt x = some l) {j : Nat} {e : MapEntry} (hj : es[j]? = some e) (he : e.key = x) :
    (Builtin.delete_ #[t, kt] ty #[.map (some m), x]).run P w = .ok (.tuple #[]) (setBlock w m (.map (es.eraseIdx j).toArray clock)) := by
  have hjs : j < es.toArray.size := by simpa using (List.getElem?_eq_some_iff.1 hj).1
  have hsub : es.toArray.eraseIdxIfInBounds j = (es.eraseIdx j).toArray := by
    unfold Array.eraseIdxIfInBounds
    rw [dif_pos hjs]
    simp
  simp [Builtin.delete_, run_underlying ht, MapKept.run_getObj_map hb, K.check w _ hx, find_some K hes hx hj he, MapKept.run_setObj_map _ hb, Result.andThen, setBlock]
/-- The entry of x, for an appending store: x in the map. -/
theorem run_entry_some (K : Keyed P kt) (ht : P.underlying t = some (.map kt et)) (hb : w.heap[m]? = some (.map es.toArray clock)) (hes : EsOk P kt es clock) (hx : keyOf P kt x = some l) {j : Nat} {e : MapEntry} (hj : es[j]? = some e) (he : e.key = x) :
    (Instr.mapEntry t (.map (some m)) x).run P w = .ok (.tuple #[e.val, goInt e.born]) (setBlock w m (.map es.toArray clock)) := by
  have e2 : es.modify j (fun e => { e with key := x }) = es := by
    apply List.ext_getElem?
    intro i
    rw [List.getElem?_modify]
    by_cases h : j = i
    · subst h
      rw [hj]
      subst he; simp
    · simp [h]
  subst he
  simp [Instr.mapEntry, run_underlying ht, MapKept.run_getObj_map hb, K.check w _ hx, find_some K hes hx hj rfl, K.stays w hx, MapKept.run_setObj_map _ hb, Result.andThen, setBlock, hj, e2]
/-- .. x not in the map. -/
theorem run_entry_none (K : Keyed P kt) (ht : P.underlying t = some (.map kt et)) (hb : w.heap[m]? = some (.map es.toArray clock)) (hes : EsOk P kt es clock) (hx : keyOf P kt x = some l) (hno : ∀ e ∈ es, e.key ≠ x) {z : Value} (hz : (zeroValue et).run P w = .ok z w) :
    (Instr.mapEntry t (.map (some m)) x).run P w = .ok (.tuple #[z, goInt clock]) (setBlock w m (.map (es ++ [({ key := x, val := z, born := clock } : MapEntry)]).toArray (clock + 1))) := by
  simp [Instr.mapEntry, run_underlying ht, MapKept.run_getObj_map hb, K.check w _ hx, find_none K hes hx hno, hz, MapKept.run_setObj_map _ hb, Result.andThen, setBlock]
/-- The store into that entry. -/
theorem run_entry_store (hb : w.heap[m]? = some (.map es.toArray clock)) (hes : EsOk P kt es clock) {j : Nat} {e : MapEntry} (hj : es[j]? = some e) (v : Value) :
    (Instr.entryStore t (.map (some m)) (goInt e.born) v).run P w = .ok () (setBlock w m (.map (es.set j { e with val := v }).toArray clock)) := by
  have hf : es.findIdx? (fun x => (x.born : Int) == e.born) = some j := by
    rw [List.findIdx?_eq_some_iff_getElem]
    obtain ⟨h1, h2⟩ := List.getElem?_eq_some_iff.1 hj
    refine ⟨h1, by rw [h2]; simp, fun i hi => ?_⟩
    have := List.pairwise_iff_getElem.1 hes.bapart i j (by omega) h1 hi
    rw [h2] at this
    simp
    omega
  have e2 : es.modify j (fun e => { e with val := v }) = es.set j { e with val := v } := by
    apply List.ext_getElem?
    intro i
    rw [List.getElem?_modify, List.getElem?_set]
    by_cases h : j = i
    · subst h
      rw [if_pos rfl, hj, if_pos (List.getElem?_eq_some_iff.1 hj).1]
      simp
    · rw [if_neg h]; simp [h]
  simp [Instr.entryStore, MapKept.run_getObj_map hb, goInt, asInt, asIntOf, hf, MapKept.run_setObj_map _ hb, Result.andThen, setBlock, e2]
theorem EsOk.set (h : EsOk P kt es clock) {j : Nat} {e : MapEntry} (hj : es[j]? = some e) (v : Value) : EsOk P kt (es.set j { e with val := v }) clock := by
  have hk : ∀ i : Nat, ((es.set j { e with val := v })[i]?).map (·.key) = (es[i]?).map (·.key) ∧ ((es.set j { e with val := v })[i]?).map (·.born) = (es[i]?).map (·.born) := by
    intro i
    rw [List.getElem?_set]
    by_cases hi : j = i
    · subst hi
      rw [if_pos rfl, if_pos (List.getElem?_eq_some_iff.1 hj).1, hj]; exact ⟨rfl, rfl⟩
    · rw [if_neg hi]; exact ⟨rfl, rfl⟩
  have mk : (es.set j { e with val := v }).map (·.key) = es.map (·.key) := List.ext_getElem? fun i => by rw [List.getElem?_map, List.getElem?_map, (hk i).1]
  have mb : (es.set j { e with val := v }).map (·.born) = es.map (·.born) := List.ext_getElem? fun i => by rw [List.getElem?_map, List.getElem?_map, (hk i).2]
  refine ⟨fun y hy => ?_, ?_, fun y hy => ?_, ?_⟩
  · have : y.key ∈ es.map (·.key) := by rw [← mk]; exact List.mem_map.2 ⟨y, hy, rfl⟩
    obtain ⟨z, hz, e1⟩ := List.mem_map.1 this
    rw [← e1]; exact h.keys z hz
  · have := h.apart
    rw [← List.pairwise_map (f := fun e : MapEntry => e.key) (R := fun a b => a ≠ b)] at this ⊢
    rw [mk]; exact this
  · have : y.born ∈ es.map (·.born) := by rw [← mb]; exact List.mem_map.2 ⟨y, hy, rfl⟩
    obtain ⟨z, hz, e1⟩ := List.mem_map.1 this
    rw [← e1]; exact h.born z hz
  · have := h.bapart
    rw [← List.pairwise_map (f := fun e : MapEntry => e.born) (R := fun a b => a ≠ b)] at this ⊢
    rw [mb]; exact this
theorem EsOk.push (h : EsOk P kt es clock) (hx : keyOf P kt x = some l) (hno : ∀ e ∈ es, e.key ≠ x) (v : Value) : EsOk P kt (es ++ [({ key := x, val := v, born := clock } : MapEntry)]) (clock + 1) := by
  refine ⟨fun y hy => ?_, ?_, fun y hy => ?_, ?_⟩
  · rcases List.mem_append.1 hy with hy | hy
    · exact h.keys y hy
    · simp at hy; subst hy; exact ⟨l, hx⟩
  · rw [List.pairwise_append]
    refine ⟨h.apart, List.pairwise_singleton _ _, fun a ha b hb => ?_⟩
    simp at hb; subst hb; exact hno a ha
  · rcases List.mem_append.1 hy with hy | hy
    · have := h.born y hy; omega
    · simp at hy; subst hy; simp
  · rw [List.pairwise_append]
    refine ⟨h.bapart, List.pairwise_singleton _ _, fun a ha b hb => ?_⟩
    simp at hb; subst hb
    have := h.born a ha
    simp only; omega
theorem EsOk.erase (h : EsOk P kt es clock) (j : Nat) : EsOk P kt (es.eraseIdx j) clock :=
  ⟨fun y hy => h.keys y ((List.eraseIdx_sublist _ _).subset hy), h.apart.sublist (List.eraseIdx_sublist _ _), fun y hy => h.born y ((List.eraseIdx_sublist _ _).subset hy), h.bapart.sublist (List.eraseIdx_sublist _ _)⟩
end
end Go.Proofs.Ythfofnfkopnbhaa
