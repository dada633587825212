/- Maps known by their list of entries: a new key; ranging over them. No program. -/
import Derived.Test.YthfofnfkopnbhaaMap
import Derived.Test.YthfofnfkopnbhaaKFrom
import Derived.Maps.RangeRun
import Derived.Laws.IdiomRangeMap
namespace Go.Proofs.Ythfofnfkopnbhaa
open Go.RowKit Go.Maps Go.ChangeMaps
set_option linter.unusedVariables false
set_option maxRecDepth 100000

section
variable {P : Program} {t kt et : TypeId} {w : World} {m clock : Nat} {es : List MapEntry} {x : Value} {l : Lit}
/-- m[x] = v, x not in the map. -/
theorem run_upd_none (K : Keyed P kt) (ht : P.underlying t = some (.map kt et)) (hb : w.heap[m]? = some (.map es.toArray clock)) (hes : EsOk P kt es clock) (hx : keyOf P kt x = some l) (hno : ∀ e ∈ es, e.key ≠ x) (v : Value) :
    (Instr.mapUpdate t (.map (some m)) x v).run P w = .ok () (setBlock w m (.map (es ++ [({ key := x, val := v, born := clock } : MapEntry)]).toArray (clock + 1))) := by
  simp [Instr.mapUpdate, run_underlying ht, MapKept.run_getObj_map hb, K.check w _ hx, find_none K hes hx hno, MapKept.run_setObj_map _ hb, Result.andThen, setBlock]
end
/-- A map is ranged over: these have come. -/
structure It (w : World) (b r : Nat) (es : List MapEntry) (ck : Nat) (ss : List MapEntry) : Prop where
  map : w.heap[b]? = some (.map es.toArray ck)
  it : ∃ seen c0, w.heap[r]? = some (.mapIter (some b) ck seen c0) ∧ seen.toList = ss.map (·.born) ∧ ck ≤ c0
  sub : ∀ e ∈ ss, e ∈ es
  nd : (ss.map (·.born)).Nodup
theorem It.keep {w w' : World} {b r ck : Nat} {es ss : List MapEntry} (h : It w b r es ck ss) (hb : w'.heap[b]? = w.heap[b]?) (hr : w'.heap[r]? = w.heap[r]?) : It w' b r es ck ss :=
  ⟨hb.trans h.map, h.it.elim fun s q => q.elim fun c q => ⟨s, c, hr.trans q.1, q.2⟩, h.sub, h.nd⟩
theorem It.lt {w : World} {b r ck : Nat} {es ss : List MapEntry} (h : It w b r es ck ss) : b < w.heap.size ∧ r < w.heap.size := by
  obtain ⟨s, c, h1, _⟩ := h.it
  exact ⟨(Array.getElem?_eq_some_iff.1 h.map).1, (Array.getElem?_eq_some_iff.1 h1).1⟩
theorem It.ne {w : World} {b r ck : Nat} {es ss : List MapEntry} (h : It w b r es ck ss) : b ≠ r := by
  rintro rfl
  obtain ⟨s, c, h1, _⟩ := h.it
  rw [h.map] at h1
  cases h1
theorem es_nd {P : Program} {kt : TypeId} {es : List MapEntry} {ck : Nat} (h : EsOk P kt es ck) : (es.map (·.born)).Nodup := by
  have := h.bapart
  rw [List.Nodup, List.pairwise_map]
  exact this
theorem nodup_of_map {α β : Type} (f : α → β) {l : List α} (h : (l.map f).Nodup) : l.Nodup := (List.pairwise_map.1 h).imp (fun hne e => hne (congrArg f e))
theorem len_le_of_sub {α : Type} : ∀ (l l' : List α), l.Nodup → (∀ x ∈ l, x ∈ l') → l.length ≤ l'.length
  | [], _, _, _ => Nat.zero_le _
  | x :: l, l', hn, hs => by
    obtain ⟨s, t, rfl⟩ := List.append_of_mem (hs x (by simp))
    have hn' := List.nodup_cons.1 hn
    have := len_le_of_sub l (s ++ t) hn'.2 (fun y hy => by
      have := hs y (by simp [hy])
      simp at this ⊢
      rcases this with h | rfl | h
      · exact .inl h
      · exact absurd hy hn'.1
      · exact .inr h)
    simp at this ⊢
    omega
theorem It.len {w : World} {b r ck : Nat} {es ss : List MapEntry} (h : It w b r es ck ss) : ss.length ≤ es.length := len_le_of_sub _ _ (nodup_of_map _ h.nd) h.sub
theorem born_one {es : List MapEntry} (h : (es.map (·.born)).Nodup) {a b : MapEntry} (ha : a ∈ es) (hb : b ∈ es) (e : a.born = b.born) : a = b := by
  rw [List.Nodup, List.pairwise_map] at h
  obtain ⟨i, hi, rfl⟩ := List.getElem_of_mem ha
  obtain ⟨j, hj, rfl⟩ := List.getElem_of_mem hb
  rcases Nat.lt_trichotomy i j with q | q | q
  · exact absurd e (List.pairwise_iff_getElem.1 h i j hi hj q)
  · subst q; rfl
  · exact absurd e.symm (List.pairwise_iff_getElem.1 h j i hj hi q)
section
variable {P : Program} {w : World} {ops : Array Oper} {rest : List Oper} {o : Oper} {a : Act} {Q : Exit → Act → World → Prop}
theorem wpList_range_it (hg : o.guard = none) (m : Operand) (t : TypeId) (hop : o.op = Op.range t m) (k e : TypeId) (ht : P.underlying t = some (.map k e)) (b : Nat) (es : List MapEntry) (ck : Nat)
    (hm : a.eval m = .map (some b)) (hb : w.heap[b]? = some (.map es.toArray ck))
    (hK : It (w.alloc (.mapIter (some b) ck #[] ck)) b w.heap.size es ck [] → wpList P ops Q rest (a.put o.dst (.pointer (some ⟨w.heap.size, 0, none⟩))) (w.alloc (.mapIter (some b) ck #[] ck))) :
    wpList P ops Q (o :: rest) a w := by
  refine wpList_plain hg fun K' hK' => ?_
  have hrun := run_range_map (P := P) w t k e b es.toArray ck ht hb
  unfold Oper.wp
  simp [execOp, hop, hm, hrun, Result.andThen]
  exact hK' _ _ (hK ⟨(heap_alloc_old w _ (Array.getElem?_eq_some_iff.1 hb).1).trans hb, ⟨#[], ck, heap_alloc_new w _, rfl, Nat.le_refl _⟩, fun _ h => (by cases h), List.nodup_nil⟩)
theorem wpList_next_it {kt : TypeId} {b r ck : Nat} {es ss : List MapEntry} (hg : o.guard = none) (it : Operand) (hop : o.op = Op.next it false) (hes : EsOk P kt es ck) (h : It w b r es ck ss)
    (hit : a.eval it = .pointer (some ⟨r, 0, none⟩))
    (hDone : ss.Perm es → wpList P ops Q rest (a.put o.dst (.tuple #[.bool false])) w)
    (hMore : ∀ (e : MapEntry) (w2 : World), e ∈ es → It w2 b r es ck (ss ++ [e]) → Ag (fun k => k ≠ r) w w2 → (Instr.entry (.pointer (some ⟨r, 0, none⟩))).run P w2 = .ok (.tuple #[e.key, e.val]) w2 → wpList P ops Q rest (a.put o.dst (.tuple #[.bool true, e.key, e.val])) w2) :
    wpList P ops Q (o :: rest) a w := by
  refine wpList_plain hg fun K' hK' => ?_
  obtain ⟨seen, c0, hr, hs, hsc⟩ := h.it
  have hne := h.ne
  have hb := h.map
  unfold Oper.wp
  rcases run_next_at (P := P) w o.type r b ck c0 seen es.toArray ck hr hb (by simpa using hes.born) hsc with ⟨h0, hrun⟩ | ⟨e, he, w1, hal, hrun⟩
  · simp [execOp, hop, hit, hrun, Result.andThen]
    refine hK' _ _ (hDone ?_)
    refine (List.perm_ext_iff_of_nodup (nodup_of_map _ h.nd) (nodup_of_map _ (es_nd hes))).2 fun e => ⟨h.sub e, fun he => ?_⟩
    have h1 := all_seen es.toArray seen h0 e (by simpa using he)
    have h2 : e.born ∈ seen.toList := by simpa using h1
    rw [hs] at h2
    obtain ⟨e', he', q⟩ := List.mem_map.1 h2
    rw [← born_one (es_nd hes) (h.sub e' he') he q]
    exact he'
  · have hml := mem_left he
    have hee : e ∈ es := by simpa using hml.1
    have hns : e.born ∉ seen.toList := by have := hml.2; simpa using this
    have hw1 : w1.heap = w.heap := by rcases hal with rfl | rfl <;> rfl
    have hrl : r < w1.heap.size := by rw [hw1]; exact (Array.getElem?_eq_some_iff.1 hr).1
    have hs1 : (setBlock w1 r (.mapIter (some b) ck (seen.push e.born) ck)).heap[r]? = some (.mapIter (some b) ck (seen.push e.born) ck) := by simp [setBlock, hrl]
    have hs2 : ∀ k, k ≠ r → (setBlock w1 r (.mapIter (some b) ck (seen.push e.born) ck)).heap[k]? = w.heap[k]? := fun k hk => by rw [← hw1]; simp [setBlock, Array.getElem?_setIfInBounds_ne (fun q => hk q.symm)]
    simp [execOp, hop, hit, hrun, Result.andThen]
    refine hK' _ _ (hMore e _ hee ⟨(hs2 b hne).trans hb, ⟨seen.push e.born, ck, hs1, by simp [hs], Nat.le_refl _⟩, ?_, ?_⟩ ?_ ?_)
    · intro x hx
      rcases List.mem_append.1 hx with hx | hx
      · exact h.sub x hx
      · simp at hx; rw [hx]; exact hee
    · rw [List.map_append, List.nodup_append]
      refine ⟨h.nd, by simp, fun x hx y hy e2 => ?_⟩
      simp at hy
      rw [← hs] at hx
      exact hns (by rw [← hy, ← e2]; exact hx)
    · rcases hal with rfl | rfl <;> exact ⟨rfl, rfl, rfl, by simp [setBlock], fun i _ hi => hs2 i hi⟩
    · exact run_entry_at _ r b ck seen es.toArray ck e hs1 ((hs2 b hne).trans hb) (by simpa using hee) (by simpa using es_nd hes)
end
end Go.Proofs.Ythfofnfkopnbhaa
