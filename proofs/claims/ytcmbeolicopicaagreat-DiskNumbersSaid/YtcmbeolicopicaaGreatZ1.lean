/- A row of elements in a block of its own, which may have been cut to its length; append onto it. No program. A map's block, known by its list of entries: reading and writing one. Of no program. Names as keys. Bytes in memory; blocks; bytes.Clone of slices. -/
import Derived.Laws.AppendOwn
import Derived.WalkKit
import Derived.Test.YtcmbeolicopicaaGreatProg
import Derived.Maps.OwnOps
import Derived.DeepKeys4
import Derived.Lib.Hide
import Derived.Sort.KeysCollected
import Derived.IntWalk
import Derived.Deep.QuietTactic
import Derived.BigQuiet
import Derived.Deep.Draws
import Derived.Deep.Slices
import Derived.Lib.SliceRun
import Derived.OpenShut
import Derived.ChangeArms
namespace Go.Proofs.YtcmbeolicopicaaGreat
open Go.RowKit
set_option linter.unusedVariables false
set_option maxRecDepth 100000

/-- v is a slice of n elements of type e (size cells each) with the cells xs, in block g from its head on; where it has room, the block has just its capacity. -/
def Row (w : World) (e : TypeId) (size : Nat) (v : Value) (g n : Nat) (xs : List Value) : Prop :=
  xs.length = n * size ∧ ((v = .slice none 0 0 ∧ n = 0) ∨
    ∃ cap cur, v = .slice (some ⟨g, 0, none⟩) n cap ∧ w.heap[g]? = some (.cells cur e (0, 0)) ∧ n ≤ cap ∧ cap ≤ maxLen ∧ cur.toList.take (n * size) = xs ∧ (n < cap → cur.size = cap * size))

theorem Row.nil (w : World) (e : TypeId) (size g : Nat) : Row w e size (.slice none 0 0) g 0 [] := ⟨by simp, .inl ⟨rfl, rfl⟩⟩
theorem Row.keep {w w' : World} {e : TypeId} {size g n : Nat} {v : Value} {xs : List Value} (h : Row w e size v g n xs) (hk : v.ownBlock = some g → w'.heap[g]? = w.heap[g]?) : Row w' e size v g n xs := by
  refine ⟨h.1, ?_⟩
  rcases h.2 with h0 | ⟨cap, cur, rfl, hg, h1, h2, h3, h4⟩
  · exact .inl h0
  · exact .inr ⟨cap, cur, rfl, (hk rfl).trans hg, h1, h2, h3, h4⟩
theorem Row.cells {w : World} {e : TypeId} {size g n : Nat} {v : Value} {xs : List Value} (h : Row w e size v g n xs) (hv : v.ownBlock ≠ none) : ∀ j u, xs[j]? = some u → w.cell? ((⟨g, 0, none⟩ : Addr).add j) = some u := by
  intro j u hu
  rcases h.2 with ⟨rfl, _⟩ | ⟨cap, cur, rfl, hg, _, _, htake, _⟩
  · exact absurd rfl hv
  · have hadd : (⟨g, 0, none⟩ : Addr).add j = ⟨g, j, none⟩ := by unfold Addr.add; split <;> simp_all
    rw [hadd, cell_of_row w g j cur e (0, 0) hg]
    rw [← htake, List.getElem?_take] at hu
    split at hu
    · simpa using hu
    · cases hu

section
variable {P : Program} (w : World)
/-- THE LAW: at least one element is put behind; the row lies where it was, or in the newest block. -/
theorem run_append_row (t ty e : TypeId) (i : TypeInfo) (z : Value) (size bytes : Nat) (ht : P.underlying t = some (.slice e)) (hi : P.info? e = some i) (hz : i.zero = some z)
    (hsize : i.size = size) (hby : i.bytes = bytes) (hzs : z.cells.size = size)
    (v : Value) (g n : Nat) (xs : List Value) (hown : Row w e size v g n xs)
    (a : Addr) (m c : Nat) (news : List Value) (hl : news.length = m * size) (hnews : ∀ j u, news[j]? = some u → w.cell? (a.add j) = some u) (h1 : ∀ u ∈ news, u.oneCell' = true)
    (h63 : n + m ≤ maxLen) (hbytes : (n + m) * bytes ≤ 140737488355328) (hm : 0 < m) :
    ∃ v' w' g', (Builtin.append_ #[t, t] ty #[v, .slice (some a) m c]).run P w = .ok v' w' ∧ Row w' e size v' g' (n + m) (xs ++ news) ∧ w.grownBy w' v.ownBlock ∧ v'.ownBlock = some g' ∧
      (g' = w.heap.size ∨ (g' = g ∧ v.ownBlock = some g)) ∧ g' < w'.heap.size := by
  subst hsize
  subst hby
  have hsmall : n + m ≤ 9223372036854775807 := by simp only [maxLen] at h63; omega
  have hlen : (xs ++ news).length = (n + m) * i.size := by rw [List.length_append, hown.1, hl, Nat.add_mul]
  have grown : ∀ (old : Nat) (row : Option Nat),
      Row (w.drew.alloc (.cells (xs.toArray ++ news.toArray ++ Builtin.zeroCells z.cells (grownCap w (n + m) old e - (n + m))) e)) e i.size
        (.slice (some ⟨w.heap.size, 0, none⟩) (n + m) (grownCap w (n + m) old e)) w.heap.size (n + m) (xs ++ news) ∧
      w.grownBy (w.drew.alloc (.cells (xs.toArray ++ news.toArray ++ Builtin.zeroCells z.cells (grownCap w (n + m) old e - (n + m))) e)) row := by
    intro old row
    have hge := grownCap_ge w (n + m) old e
    refine ⟨⟨hlen, .inr ⟨_, _, rfl, heap_alloc_new w.drew _, hge, grownCap_le_maxLen w (n + m) old e h63, ?_, fun _ => ?_⟩⟩, ⟨rfl, rfl, rfl, by simp, fun k hk _ => heap_alloc_old w.drew _ hk⟩⟩
    · simp only [Array.toList_append, List.append_assoc]
      rw [← List.append_assoc, ← hlen]
      exact List.take_left
    · simp only [Array.size_append, List.size_toArray, size_zeroCells, hzs, hown.1, hl, ← Nat.add_mul]
      congr 1
      omega
  rcases hown.2 with ⟨rfl, rfl⟩ | ⟨cap, cur, rfl, hg, hnc, hcm, htake, hcs⟩
  · have hx : xs = [] := List.eq_nil_of_length_eq_zero (by simpa using hown.1)
    subst hx
    have hr := run_append_nil (P := P) w t ty e i z ht hi hz a m c news hl hnews hm (by omega) (by have hb := hbytes; simp only [Nat.zero_add] at hb; omega)
    have hgr := grown 0 (Value.ownBlock (.slice none 0 0))
    simp only [Nat.zero_add, List.nil_append, Array.empty_append] at hgr ⊢
    exact ⟨_, _, _, hr, hgr.1, hgr.2, rfl, .inl rfl, by simp⟩
  · by_cases hroom : n + m ≤ cap
    · have hcs' := hcs (by omega)
      have hfit : n * i.size + news.length ≤ cur.size := by rw [hl, hcs', ← Nat.add_mul]; exact Nat.mul_le_mul_right _ hroom
      have hr := run_append_room (P := P) w t ty e i ht hi g n cap cur hg a m c news hl hnews h1 hroom hfit
      refine ⟨_, _, g, hr, ⟨hlen, .inr ⟨cap, _, rfl, setRow_heap w g cur _ e _ hg, hroom, hcm, ?_, fun _ => ?_⟩⟩, ⟨rfl, rfl, rfl, by simp, fun k _ hk => setRow_other w g k _ (fun e => hk (by simp [Value.ownBlock, e]))⟩, rfl, .inr ⟨rfl, rfl⟩, ?_⟩
      · rw [htake, ← hlen]
        exact List.take_left
      · simp only [List.size_toArray, List.length_append, List.length_take, List.length_drop, Array.length_toList]
        omega
      · have := (Array.getElem?_eq_some_iff.1 hg).1
        simpa using this
    · have holds := hown.cells (by simp [Value.ownBlock])
      have hr := run_append_grow (P := P) w t ty e i z ht hi hz ⟨g, 0, none⟩ n cap xs hown.1 holds a m c news hl hnews (by omega) (by omega) (growslice_fits (by omega) hbytes)
      have hgr := grown cap (Value.ownBlock (.slice (some ⟨g, 0, none⟩) n cap))
      exact ⟨_, _, _, hr, hgr.1, hgr.2, rfl, .inl rfl, by simp⟩

theorem wpList_append_row {ops : Array Oper} {rest : List Oper} {o : Oper} {a : Act} {Q : Exit → Act → World → Prop} (hgd : o.guard = none) (s x : Operand) (t : TypeId)
    (ho : o.op = .call { callee := .builtin .append, args := #[s, x], argTypes := #[t, t] })
    (e : TypeId) (i : TypeInfo) (z : Value) (size bytes : Nat) (ht : P.underlying t = some (.slice e)) (hi : P.info? e = some i) (hz : i.zero = some z)
    (hsize : i.size = size) (hby : i.bytes = bytes) (hzs : z.cells.size = size)
    (v : Value) (g n : Nat) (xs : List Value) (hs : a.eval s = v) (hown : Row w e size v g n xs)
    (ad : Addr) (m c : Nat) (news : List Value) (hx : a.eval x = .slice (some ad) m c) (hl : news.length = m * size) (hnews : ∀ j u, news[j]? = some u → w.cell? (ad.add j) = some u) (h1 : ∀ u ∈ news, u.oneCell' = true)
    (h63 : n + m ≤ maxLen) (hbytes : (n + m) * bytes ≤ 140737488355328) (hm : 0 < m)
    (h : ∀ v' w' g', Row w' e size v' g' (n + m) (xs ++ news) → w.grownBy w' v.ownBlock → v'.ownBlock = some g' → (g' = w.heap.size ∨ (g' = g ∧ v.ownBlock = some g)) → g' < w'.heap.size → wpList P ops Q rest (a.put o.dst v') w') : wpList P ops Q (o :: rest) a w := by
  refine wpList_plain hgd fun K hK => ?_
  obtain ⟨v', w', g', hr, h2, h3, h4, h5, h6⟩ := run_append_row (P := P) w t o.type e i z size bytes ht hi hz hsize hby hzs v g n xs hown ad m c news hl hnews h1 h63 hbytes hm
  unfold Oper.wp execOp
  simp only [ho, resolve, invoke, builtin, Sem.run_bind, Sem.run_pure, Result.andThen_ok, List.map_toArray, List.map_cons, List.map_nil, hs, hx, hr]
  exact hK _ _ (h v' w' g' h2 h3 h4 h5 h6)
/-- .. at a step of a region that draws its order. -/
theorem step_append_row {ops : Array Oper} {o : Oper} {a : Act} {K : Act → World → Prop} {Q : Exit → Act → World → Prop} {E : Prop} (hgd : o.guard = none) (s x : Operand) (t : TypeId)
    (ho : o.op = .call { callee := .builtin .append, args := #[s, x], argTypes := #[t, t] })
    (e : TypeId) (i : TypeInfo) (z : Value) (size bytes : Nat) (ht : P.underlying t = some (.slice e)) (hi : P.info? e = some i) (hz : i.zero = some z)
    (hsize : i.size = size) (hby : i.bytes = bytes) (hzs : z.cells.size = size)
    (v : Value) (g n : Nat) (xs : List Value) (hs : a.eval s = v) (hown : Row w e size v g n xs)
    (ad : Addr) (m c : Nat) (news : List Value) (hx : a.eval x = .slice (some ad) m c) (hl : news.length = m * size) (hnews : ∀ j u, news[j]? = some u → w.cell? (ad.add j) = some u) (h1 : ∀ u ∈ news, u.oneCell' = true)
    (h63 : n + m ≤ maxLen) (hbytes : (n + m) * bytes ≤ 140737488355328) (hm : 0 < m)
    (h : ∀ v' w' g', Row w' e size v' g' (n + m) (xs ++ news) → w.grownBy w' v.ownBlock → v'.ownBlock = some g' → (g' = w.heap.size ∨ (g' = g ∧ v.ownBlock = some g)) → g' < w'.heap.size → K (a.put o.dst v') w') :
    if Region.wanted o (yielded ops a.tmps) = true then Oper.wp P o a w K Q else E := by
  have hw : Region.wanted o (yielded ops a.tmps) = true := by simp [Region.wanted, hgd]
  rw [if_pos hw]
  obtain ⟨v', w', g', hr, h2, h3, h4, h5, h6⟩ := run_append_row (P := P) w t o.type e i z size bytes ht hi hz hsize hby hzs v g n xs hown ad m c news hl hnews h1 h63 hbytes hm
  unfold Oper.wp execOp
  simp only [ho, resolve, invoke, builtin, Sem.run_bind, Sem.run_pure, Result.andThen_ok, List.map_toArray, List.map_cons, List.map_nil, hs, hx, hr]
  exact h v' w' g' h2 h3 h4 h5 h6
end
end Go.Proofs.YtcmbeolicopicaaGreat
namespace Go.Proofs.YtcmbeolicopicaaGreat
open Go.RowKit Go.Maps Go.ChangeMaps
set_option linter.unusedVariables false
set_option maxRecDepth 100000

/-- Entries, each of a key that can be one, no key twice, no stamp twice. -/
structure EsOk (P : Program) (kt : TypeId) (es : List MapEntry) (clock : Nat) : Prop where
  keys : ∀ e ∈ es, ∃ l, keyOf P kt e.key = some l
  apart : es.Pairwise fun x y => x.key ≠ y.key
  born : ∀ e ∈ es, e.born < clock
  bapart : es.Pairwise fun x y => x.born ≠ y.born
theorem EsOk.nil (P : Program) (kt : TypeId) : EsOk P kt [] 0 := ⟨(fun _ h => by cases h), .nil, (fun _ h => by cases h), .nil⟩
section
variable {P : Program} {t kt et : TypeId} {w : World} {m clock : Nat} {es : List MapEntry} {x : Value} {l : Lit}
theorem find_some (K : Keyed P kt) (hes : EsOk P kt es clock) (hx : keyOf P kt x = some l) {j : Nat} {e : MapEntry} (hj : es[j]? = some e) (he : e.key = x) : (Instr.findKey kt x es).run P w = .ok (some (j, e.val)) w := by
  rcases K.find w hx es hes.keys with ⟨_, h2⟩ | ⟨j', e', h1, h2, h3⟩
  · exact absurd he (h2 e (List.mem_of_getElem? hj))
  · have : j' = j := by
      rcases Nat.lt_trichotomy j' j with h | h | h
      · obtain ⟨h4, h5⟩ := List.getElem?_eq_some_iff.1 h2
        obtain ⟨h6, h7⟩ := List.getElem?_eq_some_iff.1 hj
        exact absurd (by rw [h5, h7, h3, he]) (List.pairwise_iff_getElem.1 hes.apart j' j h4 h6 h)
      · exact h
      · obtain ⟨h4, h5⟩ := List.getElem?_eq_some_iff.1 h2
        obtain ⟨h6, h7⟩ := List.getElem?_eq_some_iff.1 hj
        exact absurd (by rw [h5, h7, h3, he]) (List.pairwise_iff_getElem.1 hes.apart j j' h6 h4 h)
    subst this
    rw [hj] at h2
    injection h2 with h2
    subst h2
    exact h1
theorem find_none (K : Keyed P kt) (hes : EsOk P kt es clock) (hx : keyOf P kt x = some l) (hno : ∀ e ∈ es, e.key ≠ x) : (Instr.findKey kt x es).run P w = .ok none w := by
  rcases K.find w hx es hes.keys with ⟨h1, _⟩ | ⟨j', e', h1, h2, h3⟩
  · exact h1
  · exact absurd h3 (hno e' (List.mem_of_getElem? h2))
/-- m[x], x in the map. -/
theorem run_look_some (K : Keyed P kt) (ht : P.underlying t = some (.map kt et)) (hb : w.heap[m]? = some (.map es.toArray clock)) (hes : EsOk P kt es clock) (hx : keyOf P kt x = some l) {j : Nat} {e : MapEntry} (hj : es[j]? = some e) (he : e.key = x) :
    (Instr.lookup t (.map (some m)) x false).run P w = .ok e.val w := by
  simp [Instr.lookup, run_underlying ht, MapKept.run_getObj_map hb, K.check w _ hx, find_some K hes hx hj he, Result.andThen]
/-- m[x], x not in the map. -/
theorem run_look_none (K : Keyed P kt) (ht : P.underlying t = some (.map kt et)) (hb : w.heap[m]? = some (.map es.toArray clock)) (hes : EsOk P kt es clock) (hx : keyOf P kt x = some l) (hno : ∀ e ∈ es, e.key ≠ x) {z : Value} (hz : (zeroValue et).run P w = .ok z w) :
    (Instr.lookup t (.map (some m)) x false).run P w = .ok z w := by
  simp [Instr.lookup, run_underlying ht, MapKept.run_getObj_map hb, K.check w _ hx, find_none K hes hx hno, hz, Result.andThen]
/-- m[x] = v, x in the map. -/
theorem run_upd_some (K : Keyed P kt) (ht : P.underlying t = some (.map kt et)) (hb : w.heap[m]? = some (.map es.toArray clock)) (hes : EsOk P kt es clock) (hx : keyOf P kt x = some l) {j : Nat} {e : MapEntry} (hj : es[j]? = some e) (he : e.key = x) (v : Value) :
    (Instr.mapUpdate t (.map (some m)) x v).run P w = .ok () (setBlock w m (.map (es.set j { e with val := v }).toArray clock)) := by
  have e2 : es.modify j (fun e => { e with key := x, val := v }) = es.set j { e with key := x, val := v } := by
    apply List.ext_getElem?
    intro i
    rw [List.getElem?_modify, List.getElem?_set]
    by_cases h : j = i
    · subst h
      rw [if_pos rfl, hj, if_pos (List.getElem?_eq_some_iff.1 hj).1]
      simp
    · rw [if_neg h]; simp [h]
  subst he
  simp [Instr.mapUpdate, run_underlying ht, MapKept.run_getObj_map hb, K.check w _ hx, find_some K hes hx hj rfl, K.stays w hx, MapKept.run_setObj_map _ hb, Result.andThen, setBlock, hj, e2]
/-- delete(m, x), x in the map. -/
theorem run_del_some {ty : TypeId} (K : Keyed P kt) (ht : P.underlying t = some (.map kt et)) (hb : w.heap[m]? = some (.map es.toArray clock)) (hes : EsOk P kt es clock) (hx : keyOf P kt x = some l) {j : Nat} {e : MapEntry} (hj : es[j]? = some e) (he : e.key = x) :
    (Builtin.delete_ #[t, kt] ty #[.map (some m), x]).run P w = .ok (.tuple #[]) (setBlock w m (.map (es.eraseIdx j).toArray clock)) := by
  have hjs : j < es.toArray.size := by simpa using (List.getElem?_eq_some_iff.1 hj).1
  have hsub : es.toArray.eraseIdxIfInBounds j = (es.eraseIdx j).toArray := by
    unfold Array.eraseIdxIfInBounds
    rw [dif_pos hjs]
    simp
  simp [Builtin.delete_, run_underlying ht, MapKept.run_getObj_map hb, K.check w _ hx, find_some K hes hx hj he, MapKept.run_setObj_map _ hb, Result.andThen, setBlock]
/-- The entry of x, for an appending store: x in the map. -/
theorem run_entry_some (K : Keyed P kt) (ht : P.underlying t = some (.map kt et)) (hb : w.heap[m]? = some (.map es.toArray clock)) (hes : EsOk P kt es clock) (hx : keyOf P kt x = some l) {j : Nat} {e : MapEntry} (hj : es[j]? = some e) (he : e.key = x) :
    (Instr.mapEntry t (.map (some m)) x).run P w = .ok (.tuple #[e.val, goInt e.born]) (setBlock w m (.map es.toArray clock)) := by
  have e2 : es.modify j (fun e => { e with key := x }) = es := by
    apply List.ext_getElem?
    intro i
    rw [List.getElem?_modify]
    by_cases h : j = i
    · subst h
      rw [hj]
      subst he; simp
    · simp [h]
  subst he
  simp [Instr.mapEntry, run_underlying ht, MapKept.run_getObj_map hb, K.check w _ hx, find_some K hes hx hj rfl, K.stays w hx, MapKept.run_setObj_map _ hb, Result.andThen, setBlock, hj, e2]
/-- .. x not in the map. -/
theorem run_entry_none (K : Keyed P kt) (ht : P.underlying t = some (.map kt et)) (hb : w.heap[m]? = some (.map es.toArray clock)) (hes : EsOk P kt es clock) (hx : keyOf P kt x = some l) (hno : ∀ e ∈ es, e.key ≠ x) {z : Value} (hz : (zeroValue et).run P w = .ok z w) :
    (Instr.mapEntry t (.map (some m)) x).run P w = .ok (.tuple #[z, goInt clock]) (setBlock w m (.map (es ++ [({ key := x, val := z, born := clock } : MapEntry)]).toArray (clock + 1))) := by
  simp [Instr.mapEntry, run_underlying ht, MapKept.run_getObj_map hb, K.check w _ hx, find_none K hes hx hno, hz, MapKept.run_setObj_map _ hb, Result.andThen, setBlock]
/-- The store into that entry. -/
theorem run_entry_store (hb : w.heap[m]? = some (.map es.toArray clock)) (hes : EsOk P kt es clock) {j : Nat} {e : MapEntry} (hj : es[j]? = some e) (v : Value) :
    (Instr.entryStore t (.map (some m)) (goInt e.born) v).run P w = .ok () (setBlock w m (.map (es.set j { e with val := v }).toArray clock)) := by
  have hf : es.findIdx? (fun x => (x.born : Int) == e.born) = some j := by
    rw [List.findIdx?_eq_some_iff_getElem]
    obtain ⟨h1, h2⟩ := List.getElem?_eq_some_iff.1 hj
    refine ⟨h1, by rw [h2]; simp, fun i hi => ?_⟩
    have := List.pairwise_iff_getElem.1 hes.bapart i j (by omega) h1 hi
    rw [h2] at this
    simp
    omega
  have e2 : es.modify j (fun e => { e with val := v }) = es.set j { e with val := v } := by
    apply List.ext_getElem?
    intro i
    rw [List.getElem?_modify, List.getElem?_set]
    by_cases h : j = i
    · subst h
      rw [if_pos rfl, hj, if_pos (List.getElem?_eq_some_iff.1 hj).1]
      simp
    · rw [if_neg h]; simp [h]
  simp [Instr.entryStore, MapKept.run_getObj_map hb, goInt, asInt, asIntOf, hf, MapKept.run_setObj_map _ hb, Result.andThen, setBlock, e2]
theorem EsOk.set (h : EsOk P kt es clock) {j : Nat} {e : MapEntry} (hj : es[j]? = some e) (v : Value) : EsOk P kt (es.set j { e with val := v }) clock := by
  have hk : ∀ i : Nat, ((es.set j { e with val := v })[i]?).map (·.key) = (es[i]?).map (·.key) ∧ ((es.set j { e with val := v })[i]?).map (·.born) = (es[i]?).map (·.born) := by
    intro i
    rw [List.getElem?_set]
    by_cases hi : j = i
    · subst hi
      rw [if_pos rfl, if_pos (List.getElem?_eq_some_iff.1 hj).1, hj]; exact ⟨rfl, rfl⟩
    · rw [if_neg hi]; exact ⟨rfl, rfl⟩
  have mk : (es.set j { e with val := v }).map (·.key) = es.map (·.key) := List.ext_getElem? fun i => by rw [List.getElem?_map, List.getElem?_map, (hk i).1]
  have mb : (es.set j { e with val := v }).map (·.born) = es.map (·.born) := List.ext_getElem? fun i => by rw [List.getElem?_map, List.getElem?_map, (hk i).2]
  refine ⟨fun y hy => ?_, ?_, fun y hy => ?_, ?_⟩
  · have : y.key ∈ es.map (·.key) := by rw [← mk]; exact List.mem_map.2 ⟨y, hy, rfl⟩
    obtain ⟨z, hz, e1⟩ := List.mem_map.1 this
    rw [← e1]; exact h.keys z hz
  · have := h.apart
    rw [← List.pairwise_map (f := fun e : MapEntry => e.key) (R := fun a b => a ≠ b)] at this ⊢
    rw [mk]; exact this
  · have : y.born ∈ es.map (·.born) := by rw [← mb]; exact List.mem_map.2 ⟨y, hy, rfl⟩
    obtain ⟨z, hz, e1⟩ := List.mem_map.1 this
    rw [← e1]; exact h.born z hz
  · have := h.bapart
    rw [← List.pairwise_map (f := fun e : MapEntry => e.born) (R := fun a b => a ≠ b)] at this ⊢
    rw [mb]; exact this
theorem EsOk.push (h : EsOk P kt es clock) (hx : keyOf P kt x = some l) (hno : ∀ e ∈ es, e.key ≠ x) (v : Value) : EsOk P kt (es ++ [({ key := x, val := v, born := clock } : MapEntry)]) (clock + 1) := by
  refine ⟨fun y hy => ?_, ?_, fun y hy => ?_, ?_⟩
  · rcases List.mem_append.1 hy with hy | hy
    · exact h.keys y hy
    · simp at hy; subst hy; exact ⟨l, hx⟩
  · rw [List.pairwise_append]
    refine ⟨h.apart, List.pairwise_singleton _ _, fun a ha b hb => ?_⟩
    simp at hb; subst hb; exact hno a ha
  · rcases List.mem_append.1 hy with hy | hy
    · have := h.born y hy; omega
    · simp at hy; subst hy; simp
  · rw [List.pairwise_append]
    refine ⟨h.bapart, List.pairwise_singleton _ _, fun a ha b hb => ?_⟩
    simp at hb; subst hb
    have := h.born a ha
    simp only; omega
theorem EsOk.erase (h : EsOk P kt es clock) (j : Nat) : EsOk P kt (es.eraseIdx j) clock :=
  ⟨fun y hy => h.keys y ((List.eraseIdx_sublist _ _).subset hy), h.apart.sublist (List.eraseIdx_sublist _ _), fun y hy => h.born y ((List.eraseIdx_sublist _ _).subset hy), h.bapart.sublist (List.eraseIdx_sublist _ _)⟩
end
end Go.Proofs.YtcmbeolicopicaaGreat
namespace Go.Proofs.YtcmbeolicopicaaGreat
open Go.RowKit Go.Maps Go.ChangeMaps Go.Sort
set_option linter.unusedVariables false
set_option maxRecDepth 100000

def I64 (a : Int) : Prop := -9223372036854775808 ≤ a ∧ a ≤ 9223372036854775807
theorem nLaidOut : laidOutB Tryz.prog = true := by kernel_rfl
theorem strLaw : Keyed Tryz.prog 9 := string_keyed Tryz.underlying9
def nmV (s : List UInt8) : Value := .string ⟨s.toArray⟩
theorem nmV_inj {x y : List UInt8} (h : nmV x = nmV y) : x = y := by simpa [nmV] using h
theorem nmKey (s : List UInt8) (h : s.length ≤ maxLen) : ∃ l, keyOf Tryz.prog 9 (nmV s) = some l := by
  refine ⟨.string s, ?_⟩
  unfold nmV
  simp [keyOf, Tryz.underlying9, mapKey]
  exact h
theorem zeroPtr (w : World) : (zeroValue 59).run Tryz.prog w = .ok (.pointer none) w := by kernel_rfl
theorem mapTy : Tryz.prog.underlying 46 = some (.map 9 59) := Tryz.underlying46
end Go.Proofs.YtcmbeolicopicaaGreat
namespace Go.Proofs.YtcmbeolicopicaaGreat
open Go.RowKit Go.Maps Go.ChangeMaps
set_option linter.unusedVariables false
set_option maxRecDepth 100000

theorem add_blk (a : Addr) (n : Nat) : (a.add n).block = a.block := by unfold Addr.add; split <;> rfl
/-- The slice at A, of capacity c, holds the cells xs, in a block of which K holds. -/
def Rd (w : World) (K : Nat → Prop) (A : Option Addr) (c : Nat) (xs : List Value) : Prop :=
  (A = none → c = 0) ∧ (xs ≠ [] → ∃ a, A = some a ∧ K a.block ∧ ∀ j u, xs[j]? = some u → w.cell? (a.add j) = some u)
theorem Rd.none_ (w : World) (K : Nat → Prop) (A : Option Addr) (c : Nat) (h : A = none → c = 0) : Rd w K A c [] := ⟨h, fun h => absurd rfl h⟩
theorem Rd.keep {w w' : World} {K K' : Nat → Prop} {c : Nat} {A : Option Addr} {xs : List Value} (h : Rd w K A c xs) (hk : ∀ b, K b → w'.heap[b]? = w.heap[b]?) (hK : ∀ b, K b → K' b) : Rd w' K' A c xs :=
  ⟨h.1, fun hx => let ⟨a, e, hb, hc⟩ := h.2 hx; ⟨a, e, hK _ hb, fun j u hu => (World.cell?_of_block (by rw [add_blk]; exact hk _ hb)).trans (hc j u hu)⟩⟩
theorem Rd.nonone {w : World} {K : Nat → Prop} {c : Nat} {A : Option Addr} {xs : List Value} (h : Rd w K A c xs) : A = none → xs.length = 0 ∧ c = 0 := by
  intro e
  refine ⟨?_, h.1 e⟩
  cases xs with
  | nil => rfl
  | cons x l => obtain ⟨a, e', _⟩ := h.2 (by simp); rw [e] at e'; cases e'
def u8s (l : List Int) : List Value := l.map (Value.int .u8)
@[simp] theorem u8s_len (l : List Int) : (u8s l).length = l.length := by simp [u8s]
theorem u8s_one (l : List Int) : ∀ u ∈ u8s l, u.oneCell' = true := by
  intro u hu
  obtain ⟨x, _, rfl⟩ := List.mem_map.1 hu
  rfl
/-- The slice at A, of capacity c, is just these bytes, from the head of a block on, of which K holds; the block has room up to the capacity. -/
def Dat (w : World) (K : Nat → Prop) (A : Option Addr) (c : Nat) (l : List Int) : Prop :=
  ∃ b, Row w 5 1 (.slice A l.length c) b l.length (u8s l) ∧ ((Value.slice A l.length c).ownBlock = some b → K b ∧ b < w.heap.size)
theorem Dat.form {w : World} {K : Nat → Prop} {A : Option Addr} {c : Nat} {l : List Int} (h : Dat w K A c l) :
    (A = none ∧ c = 0 ∧ l = []) ∨ ∃ b cur, A = some ⟨b, 0, none⟩ ∧ K b ∧ b < w.heap.size ∧ w.heap[b]? = some (.cells cur 5 (0, 0)) ∧ l.length ≤ c ∧ c ≤ maxLen ∧ cur.toList.take l.length = u8s l ∧ (l.length < c → cur.size = c) := by
  obtain ⟨b, h1, h2⟩ := h
  rcases h1.2 with ⟨e1, e2⟩ | ⟨cap, cur, e1, hg, h3, h4, h5, h6⟩
  · injection e1 with e1 e3 e4
    exact .inl ⟨e1, e4, List.eq_nil_of_length_eq_zero e2⟩
  · injection e1 with e1 e3 e4
    subst e1 e4
    obtain ⟨k1, k2⟩ := h2 rfl
    exact .inr ⟨b, cur, rfl, k1, k2, hg, h3, h4, by simpa using h5, by simpa using h6⟩
theorem Dat.rd {w : World} {K : Nat → Prop} {A : Option Addr} {c : Nat} {l : List Int} (h : Dat w K A c l) : Rd w (fun b => K b ∧ b < w.heap.size) A c (u8s l) ∧ l.length ≤ c ∧ c ≤ maxLen := by
  rcases h.form with ⟨rfl, rfl, rfl⟩ | ⟨b, cur, rfl, hk, hb, hg, h1, h2, h3, h4⟩
  · exact ⟨Rd.none_ _ _ _ _ (fun _ => rfl), Nat.le_refl _, by decide⟩
  · refine ⟨⟨(fun e => by cases e), fun _ => ⟨_, rfl, ⟨hk, hb⟩, fun j u hu => ?_⟩⟩, h1, h2⟩
    have hadd : (⟨b, 0, none⟩ : Addr).add j = ⟨b, j, none⟩ := by unfold Addr.add; split <;> simp_all
    rw [hadd, cell_of_row w b j cur 5 (0, 0) hg]
    rw [← h3, List.getElem?_take] at hu
    split at hu
    · simpa using hu
    · cases hu
theorem Dat.keep {w w' : World} {K K' : Nat → Prop} {A : Option Addr} {c : Nat} {l : List Int} (h : Dat w K A c l) (hk : ∀ b, K b → b < w.heap.size → w'.heap[b]? = w.heap[b]?) (hs : w.heap.size ≤ w'.heap.size) (hK : ∀ b, K b → b < w.heap.size → K' b) : Dat w' K' A c l := by
  obtain ⟨b, h1, h2⟩ := h
  exact ⟨b, h1.keep (fun e => let ⟨k1, k2⟩ := h2 e; hk b k1 k2), fun e => let ⟨k1, k2⟩ := h2 e; ⟨hK b k1 k2, Nat.lt_of_lt_of_le k2 hs⟩⟩
theorem Dat.nil (w : World) (K : Nat → Prop) : Dat w K none 0 [] := ⟨0, Row.nil _ _ _ _, (fun e => by cases e)⟩
theorem own_dat {w' : World} {base : Nat} {v : Value} {l : List Int} (h : w'.ownsRow base 5 1 v l.length (u8s l)) : ∃ A c, v = .slice A l.length c ∧ Dat w' (fun b => base ≤ b) A c l := by
  rcases h.2 with ⟨e1, e2⟩ | ⟨g, cap, cur, e1, hb, hg, h1, h2, h3, h4⟩
  · have : l = [] := List.eq_nil_of_length_eq_zero e2
    subst this
    exact ⟨none, 0, e1, Dat.nil _ _⟩
  · subst e1
    exact ⟨_, _, rfl, g, ⟨h.1, .inr ⟨cap, cur, rfl, hg, h1, h2, h4, fun _ => h3⟩⟩, fun _ => ⟨hb, (Array.getElem?_eq_some_iff.1 hg).1⟩⟩
/-- slices.Clone, of bytes. -/
theorem clone_any (K : Nat → Prop) (A : Option Addr) (c : Nat) (l : List Int) (w : World) (h : Rd w K A c (u8s l)) (hn : l.length ≤ 100000000) :
    Calls Tryz.prog 23 #[.slice A l.length c] w fun e w' => ∃ A' c', e = .returned (.slice A' l.length c') ∧ Dat w' (fun b => w.heap.size ≤ b) A' c' l ∧ Below w.heap.size w w' := by
  have q35 : ∀ (w : World) (a : Option Addr) (n c : Nat), (binOp .eql 29 (.slice a n c) (.slice none 0 0)).run Tryz.prog w = .ok (.bool a.isNone) w := fun w a n c => Lib.run_eql_slice_nil w _ _ _ _ _ _ _ Tryz.underlying29
  cases A with
  | none =>
    obtain ⟨h1, rfl⟩ := h.nonone rfl
    simp at h1
    subst h1
    go_enter Tryz.func23, Tryz.ntmps23
    go_wp2_with fail
    go_ret
    exact ⟨none, 0, rfl, Dat.nil _ _, Below.refl _ _⟩
  | some a =>
    obtain ⟨i0, hi, hz0, hz1, hz2⟩ : ∃ i0 : TypeInfo, Tryz.prog.info? 5 = some i0 ∧ i0.zero = some (.int .u8 0) ∧ i0.size = 1 ∧ i0.bytes = 1 := ⟨_, rfl, rfl, rfl, rfl⟩
    have H := Lib.hid h
    clear h
    have hm0 : (w.alloc (.cells #[] 5)).ownsRow w.heap.size 5 1 (.slice (some ⟨w.heap.size, 0, none⟩) 0 0) 0 [] := World.ownsRow_made w #[] 0 (Nat.le_refl _) (by decide) rfl
    have hc0 : ∀ j u, (u8s l)[j]? = some u → (w.alloc (.cells #[] 5)).cell? (a.add j) = some u := by
      intro j u hu
      obtain ⟨a', e', _, hc⟩ := H.out.2 (by intro e; rw [e] at hu; cases hu)
      injection e' with e'
      subst e'
      have h1 := hc j u hu
      rw [World.cell?_of_block (heap_alloc_old w _ (World.block_lt_of_cell? w _ h1))]
      exact h1
    go_enter Tryz.func23, Tryz.ntmps23
    go_wp2_with (at_builtin; refine wpList_append_own _ rfl _ _ 29 rfl w.heap.size 5 i0 (.int .u8 0) 1 1 Tryz.underlying29 hi hz0 hz1 hz2 rfl (by decide) (.slice (some ⟨w.heap.size, 0, none⟩) 0 0) 0 [] rfl hm0 a l.length c (u8s l) rfl (by simp) hc0 (u8s_one _) (by unfold maxLen; omega) (by omega) (by simp) ?_; intro v' w1 hown hgrow hv)
    simp only [Nat.zero_add, List.nil_append] at hown
    have hbel : Below w.heap.size w w1 := ((Below.refl w.heap.size w).alloc (Nat.le_refl _) _).grown hgrow (by simp) (by intro k e; simp [Value.ownBlock] at e; omega)
    have hrd := own_dat (base := w.heap.size) hown
    clear hown hgrow hv
    obtain ⟨A', c', rfl, hd⟩ := hrd
    go_ret
    exact ⟨_, _, rfl, hd, hbel⟩

/-- A block is just these cells. -/
def Bk (w : World) (g : Nat) (t : TypeId) (cs : List Value) : Prop := w.heap[g]? = some (.cells cs.toArray t (0, 0))
theorem Bk.new (w : World) (t : TypeId) (cs : List Value) : Bk (w.alloc (.cells cs.toArray t)) w.heap.size t cs := heap_alloc_new w _
theorem Bk.lt {w : World} {g : Nat} {t : TypeId} {cs : List Value} (h : Bk w g t cs) : g < w.heap.size := (Array.getElem?_eq_some_iff.1 h).1
theorem Bk.below {w w' : World} {g B : Nat} {t : TypeId} {cs : List Value} (h : Bk w g t cs) (hb : Below B w w') (hg : g < B) : Bk w' g t cs := (hb.block g hg).trans h
theorem Bk.cell {w : World} {g : Nat} {t : TypeId} {cs : List Value} (h : Bk w g t cs) (i : Nat) : w.cell? ⟨g, i, none⟩ = cs[i]? := by
  rw [cell_of_row w g i cs.toArray t (0, 0) h, List.getElem?_toArray]
theorem Bk.frozen {w : World} {g : Nat} {t : TypeId} {cs : List Value} (h : Bk w g t cs) (i : Nat) : w.frozen? ⟨g, i, none⟩ = false := frozen_of_row w g i _ t h
theorem Bk.set {w : World} {g : Nat} {t : TypeId} {cs : List Value} (h : Bk w g t cs) (i : Nat) (u : Value) : Bk (w.setCell ⟨g, i, none⟩ u) g t (cs.set i u) := by
  have := heap_setCell_same w g i cs.toArray t u h
  unfold Bk
  rw [this]
  simp
theorem Bk.far {w : World} {g : Nat} {t : TypeId} {cs : List Value} (h : Bk w g t cs) {p : Addr} (hp : g ≠ p.block) (u : Value) : Bk (w.setCell p u) g t cs := (Below.heap_setCell w p u g hp).trans h
theorem Bk.drew {w : World} {g : Nat} {t : TypeId} {cs : List Value} (h : Bk w g t cs) : Bk w.drew g t cs := h
end Go.Proofs.YtcmbeolicopicaaGreat
