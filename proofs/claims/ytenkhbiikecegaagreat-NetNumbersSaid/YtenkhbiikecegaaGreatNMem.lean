/- A net in memory, a row changed. -/
import Derived.Test.YtenkhbiikecegaaGreatNSet
namespace Go.Proofs.YtenkhbiikecegaaGreat
open Go.RowKit Go.Maps Go.ChangeMaps
set_option linter.unusedVariables false
set_option maxRecDepth 100000

/-- A block of bytes. -/
def UB (w : World) (b : Nat) : Prop := ∃ cs ow, w.heap[b]? = some (.cells cs 5 ow)
theorem Dat.narrow {w : World} {K : Nat → Prop} {A : Option Addr} {c : Nat} {l : List Int} (h : Dat w K A c l) : Dat w (fun b => K b ∧ UB w b) A c l := by
  obtain ⟨b, h1, h2⟩ := h
  refine ⟨b, h1, fun e => ⟨⟨(h2 e).1, ?_⟩, (h2 e).2⟩⟩
  rcases h1.2 with ⟨q, _⟩ | ⟨cap, cur, _, hg, _⟩
  · rw [q] at e; cases e
  · exact ⟨_, _, hg⟩
theorem RowAt.narrow {w : World} {K : Nat → Prop} {r : NRow} (h : RowAt w K r) : RowAt w (fun b => K b ∧ UB w b) r :=
  ⟨h.ia, h.ib, h.ne, h.few, h.le, h.max, h.bk, fun p hp => ⟨(h.dat p hp).1.narrow, (h.dat p hp).2⟩, h.pap⟩
theorem NetAt.narrow {w : World} {K : Nat → Prop} {N : Nat} {st : NSt} (h : NetAt w K N st) : NetAt w (fun b => K b ∧ UB w b) N st :=
  ⟨h.net, h.map, fun r hr => (h.row r hr).narrow, h.apart⟩
/-- A net's own blocks hold no bytes. -/
theorem NetAt.notUB {w : World} {K : Nat → Prop} {N : Nat} {st : NSt} (h : NetAt w K N st) {b : Nat} (hb : UB w b) : ¬ NOwn st b ∧ b ≠ N := by
  obtain ⟨cs, ow, hc⟩ := hb
  refine ⟨?_, ?_⟩
  · rintro (rfl | ⟨r, hr, rfl⟩)
    · obtain ⟨es, c, h1, _⟩ := h.map
      rw [h1] at hc; cases hc
    · obtain ⟨e, k, _⟩ := (h.row r hr).bk
      rw [k] at hc
      injection hc with hc; injection hc with _ hc
      exact absurd hc (by decide)
  · rintro rfl
    rw [h.net] at hc
    injection hc with hc; injection hc with _ hc
    exact absurd hc (by decide)
theorem NetAt.netNotOwn {w : World} {K : Nat → Prop} {N : Nat} {st : NSt} (h : NetAt w K N st) : ¬ NOwn st N := by
  rintro (e | ⟨r, hr, e⟩)
  · obtain ⟨es, c, h1, _⟩ := h.map
    rw [← e, h.net] at h1; cases h1
  · obtain ⟨x, k, _⟩ := (h.row r hr).bk
    unfold Bk at k
    rw [e, h.net] at k
    injection k with k; injection k with _ k
    exact absurd k (by decide)
theorem NetAt.rowNotMap {w : World} {K : Nat → Prop} {N : Nat} {st : NSt} (h : NetAt w K N st) {r : NRow} (hr : r ∈ st.rows) : r.g ≠ st.m := by
  intro e
  obtain ⟨es, c, h1, _⟩ := h.map
  obtain ⟨x, k, _⟩ := (h.row r hr).bk
  unfold Bk at k
  rw [e, h1] at k
  cases k
theorem map_erase {α β : Type} (f : α → β) : ∀ (l : List α) (j : Nat), (l.eraseIdx j).map f = (l.map f).eraseIdx j
  | [], j => rfl
  | x :: l, 0 => rfl
  | x :: l, j + 1 => by simp [map_erase f l j]
theorem map_set_eq {α β : Type} (f : α → β) : ∀ (l : List α) (j : Nat) (x : α), (l.set j x).map f = (l.map f).set j (f x) := by
  intro l j x
  simp [List.map_set]
/-- A row is changed. -/
theorem NetAt.setRow {w w' : World} {K K' : Nat → Prop} {N : Nat} {st : NSt} (h : NetAt w K N st) {j : Nat} {r r' : NRow} (hj : st.rows[j]? = some r) (ka : r'.a = r.a) (kb : r'.b = r.b)
    (hm : ∀ es clock e, w.heap[st.m]? = some (.map es.toArray clock) → EsOk Tryz.prog 58 es clock → es[j]? = some e → e.key = r.key → e.val = r.val → w'.heap[st.m]? = some (.map (es.set j { e with val := r'.val }).toArray clock))
    (hN : w'.heap[N]? = w.heap[N]?) (ho : ∀ i s, i ≠ j → st.rows[i]? = some s → w'.heap[s.g]? = w.heap[s.g]?)
    (hk : ∀ b, b < w.heap.size → UB w b → w'.heap[b]? = w.heap[b]?) (hK : ∀ b, K b → b < w.heap.size → UB w b → K' b)
    (hr : RowAt w' K' r') (hs : ∀ i s, i ≠ j → st.rows[i]? = some s → RSep r' s) (hsz : w.heap.size ≤ w'.heap.size) : NetAt w' K' N ⟨st.m, st.rows.set j r'⟩ := by
  obtain ⟨es, c, h1, h2, h3⟩ := h.map
  obtain ⟨e, he, k1, k2⟩ := ent_row h3 hj
  refine ⟨hN.trans h.net, ⟨_, c, hm es c e h1 h2 he k1 k2, h2.set he r'.val, ?_⟩, fun s hs' => ?_, pair_set (fun _ _ q => q.symm) h.apart hs⟩
  · rw [map_set_eq, map_set_eq, h3]
    congr 1
    rw [k1, NRow.key, NRow.key, ka, kb]
  · obtain ⟨i, hi⟩ := List.mem_iff_getElem?.1 hs'
    by_cases hij : i = j
    · subst hij
      rw [List.getElem?_set_self (List.getElem?_eq_some_iff.1 hj).1] at hi
      injection hi with hi
      subst hi
      exact hr
    · rw [List.getElem?_set_ne (fun q => hij q.symm)] at hi
      exact ((h.row s (List.mem_of_getElem? hi)).narrow).keep (ho i s hij hi) (fun b hb hl => hk b hl hb.2) hsz (fun b hb hl => hK b hb.1 hl hb.2)
/-- A row more. -/
theorem NetAt.pushRow {w w' : World} {K K' : Nat → Prop} {N : Nat} {st : NSt} (h : NetAt w K N st) {r' : NRow} (hno : ∀ r ∈ st.rows, ¬ (r.a = r'.a ∧ r.b = r'.b))
    (hm : ∀ es clock, w.heap[st.m]? = some (.map es.toArray clock) → EsOk Tryz.prog 58 es clock → (∀ e ∈ es, e.key ≠ r'.key) → w'.heap[st.m]? = some (.map (es ++ [({ key := r'.key, val := r'.val, born := clock } : MapEntry)]).toArray (clock + 1)))
    (hN : w'.heap[N]? = w.heap[N]?) (ho : ∀ s ∈ st.rows, w'.heap[s.g]? = w.heap[s.g]?)
    (hk : ∀ b, b < w.heap.size → UB w b → w'.heap[b]? = w.heap[b]?) (hK : ∀ b, K b → b < w.heap.size → UB w b → K' b)
    (hr : RowAt w' K' r') (hs : ∀ s ∈ st.rows, RSep s r') (hsz : w.heap.size ≤ w'.heap.size) : NetAt w' K' N ⟨st.m, st.rows ++ [r']⟩ := by
  obtain ⟨es, c, h1, h2, h3⟩ := h.map
  have hne := ent_none h3 hno
  obtain ⟨l, hl⟩ := linkKey r'.a r'.b hr.ia hr.ib
  refine ⟨hN.trans h.net, ⟨_, _, hm es c h1 h2 hne, h2.push hl hne r'.val, ?_⟩, fun s hs' => ?_, List.pairwise_append.2 ⟨h.apart, List.pairwise_singleton _ _, fun x hx y hy => ?_⟩⟩
  · rw [List.map_append, List.map_append, h3]
    rfl
  · simp at hs'
    rcases hs' with hs' | rfl
    · exact ((h.row s hs').narrow).keep (ho s hs') (fun b hb hl => hk b hl hb.2) hsz (fun b hb hl => hK b hb.1 hl hb.2)
    · exact hr
  · simp at hy; subst hy; exact hs x hx
/-- A row less. -/
theorem NetAt.eraseRow {w w' : World} {K K' : Nat → Prop} {N : Nat} {st : NSt} (h : NetAt w K N st) {j : Nat} {r : NRow} (hj : st.rows[j]? = some r)
    (hm : ∀ es clock e, w.heap[st.m]? = some (.map es.toArray clock) → EsOk Tryz.prog 58 es clock → es[j]? = some e → e.key = r.key → w'.heap[st.m]? = some (.map (es.eraseIdx j).toArray clock))
    (hN : w'.heap[N]? = w.heap[N]?) (ho : ∀ i s, i ≠ j → st.rows[i]? = some s → w'.heap[s.g]? = w.heap[s.g]?)
    (hk : ∀ b, b < w.heap.size → UB w b → w'.heap[b]? = w.heap[b]?) (hK : ∀ b, K b → b < w.heap.size → UB w b → K' b) (hsz : w.heap.size ≤ w'.heap.size) : NetAt w' K' N ⟨st.m, st.rows.eraseIdx j⟩ := by
  obtain ⟨es, c, h1, h2, h3⟩ := h.map
  obtain ⟨e, he, k1, k2⟩ := ent_row h3 hj
  refine ⟨hN.trans h.net, ⟨_, c, hm es c e h1 h2 he k1, h2.erase j, ?_⟩, fun s hs' => ?_, h.apart.sublist (List.eraseIdx_sublist _ _)⟩
  · rw [map_erase, map_erase, h3]
  · obtain ⟨i, hij, hi⟩ := List.mem_eraseIdx_iff_getElem?.1 hs'
    exact ((h.row s (List.mem_of_getElem? hi)).narrow).keep (ho i s hij hi) (fun b hb hl => hk b hl hb.2) hsz (fun b hb hl => hK b hb.1 hl hb.2)
end Go.Proofs.YtenkhbiikecegaaGreat
