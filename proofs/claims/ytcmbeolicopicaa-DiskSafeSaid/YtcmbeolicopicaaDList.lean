/- disk: the names, rising. -/
import Derived.Test.YtcmbeolicopicaaDRight
import Derived.Test.YtcmbeolicopicaaDIter
import Derived.OwnWalkIn
import Derived.TacticsInMore
import Derived.OneCell
namespace Go.Proofs.Ytcmbeolicopicaa
open Go.RowKit Go.Maps Go.ChangeMaps Go.Sort Go.Shelf
set_option linter.unusedVariables false
set_option linter.unusedSimpArgs false
set_option maxRecDepth 100000

def noR : Value → Option (DataW Unit × List MemPlace) := fun _ => some (.nil, [])
theorem rg_nm {x : MapEntry} {s : Nm} (h : x.key = nmV s) (hs : s.length ≤ maxLen) : WideElems.rg Try.prog 9 noR x = (.string s, .nil) := by
  have hk : keyOf Try.prog 9 x.key = some (.string s) := by
    rw [h]
    unfold nmV
    simp only [keyOf, Try.underlying9, mapKey]
    rw [if_pos (show (ByteArray.mk s.toArray).size ≤ maxLen from hs)]
  simp [WideElems.rg, WideElems.rd, hk, noR]
theorem DskAt.maps {w : World} {D : Nat} {st : DSt} (h : DskAt w D st) (hn : st.fs.length ≤ 1000000) : ∃ D0, w.ownsMap Try.prog 9 noR st.m st.fs.length D0 ∧ Maps.size D0 ≤ 1000000 ∧ (strKeys D0).Perm (st.fs.map DF.s) := by
  obtain ⟨es, ck, h1, h2, h3⟩ := h.map
  have hlen : es.length = st.fs.length := by have := congrArg List.length h3; simpa using this
  have hkey : ∀ x ∈ es, ∃ f ∈ st.fs, x.key = nmV f.s ∧ f.s.length ≤ maxLen := by
    intro x hx
    obtain ⟨f, hf, e1, _⟩ := ent_of h3 hx
    exact ⟨f, hf, e1, by have := (h.file f hf).sl; unfold maxLen; omega⟩
  have hperm := WideShapes.sorted_perm ((es.toArray.toList.map (WideElems.rg Try.prog 9 noR)))
  refine ⟨_, ⟨es.toArray, ck, h1, ⟨by simp [hlen]; unfold maxLen; omega, ⟨by simpa using h2.born, by simpa using es_nd h2, ?_⟩, fun x hx => ?_⟩, by simp [hlen], rfl⟩, ?_, ?_⟩
  · have := h2.apart
    rw [List.Nodup, List.pairwise_map]
    simpa using this
  · obtain ⟨f, hf, e1, e2⟩ := hkey x (by simpa using hx)
    obtain ⟨l, hl⟩ := h2.keys x (by simpa using hx)
    exact ⟨_, by simp only [WideElems.rd, hl, Option.bind_some, noR, Option.map_some]; rfl⟩
  · have := hperm.length_eq
    show (List.foldr DataW.insert [] _).length ≤ _
    rw [this]
    simp
    omega
  · have h4 : (strKeys (DataW.map (List.foldr DataW.insert [] (es.toArray.toList.map (WideElems.rg Try.prog 9 noR))))).Perm ((es.map (WideElems.rg Try.prog 9 noR)).map fun p => strOf p.1) := hperm.map _
    refine h4.trans (List.Perm.of_eq ?_)
    rw [List.map_map]
    have h5 : st.fs.map DF.s = es.map fun x => strOf (WideElems.rg Try.prog 9 noR x).1 := by
      refine List.ext_getElem? fun i => ?_
      rw [List.getElem?_map, List.getElem?_map]
      cases hi : st.fs[i]? with
      | none =>
        have : es[i]? = none := by rw [List.getElem?_eq_none_iff] at hi ⊢; omega
        rw [this]; rfl
      | some f =>
        obtain ⟨e, he, e1, _⟩ := ent_at h3 hi
        have hsl := (h.file f (List.mem_of_getElem? hi)).sl
        rw [he]
        simp only [Option.map_some]
        rw [rg_nm e1 (by unfold maxLen; omega)]
        rfl
    rw [h5]
    rfl
/-- Names, sorted, are the canonical list's. -/
theorem sort_names {ss : List Nm} {L : List FE} (hL : Srt L) (h : ss.Perm (L.map FE.s)) : ss.mergeSort (fun x y => decide (x ≤ y)) = L.map FE.s := by
  have hs : (L.map FE.s).mergeSort leB = L.map FE.s := by
    refine List.mergeSort_of_pairwise ?_
    rw [List.pairwise_map]
    exact hL.imp fun h => by
      simp only [leB, decide_eq_true_eq]
      exact List.le_of_lt h
  rw [← hs]
  exact mergeSort_of_perm h
set_option maxHeartbeats 1000000 in
theorem list_any (D : Nat) (st : DSt) (L : List FE) (w : World) (h : DskAt w D st) (hn : st.fs.length ≤ 1000000) (hL : Srt L) (hp : (st.fs.map DF.fe).Perm L) :
    Calls Try.prog 30 #[.pointer (some ⟨D, 0, none⟩)] w fun e w' => ∃ v, e = .returned v ∧ w'.ownsRow w.heap.size 9 1 v L.length ((L.map FE.s).map encStr) ∧ Below w.heap.size w w' := by
  obtain ⟨D0, hown, hsz, hk⟩ := h.maps hn
  have c0 := h.dsk.cell 0
  simp only [List.getElem?_cons_zero] at c0
  refine (callsIn_wide (n := 6)).1 ?_
  have hfK : Fence.wide.fn 38 := trivial
  have hfS : Fence.wide.fn 37 := trivial
  refine callsIn_of_wp Try.func30 rfl trivial ?_ rfl
  simp only [Try.ntmps30, List.size_toArray, List.length_cons, List.length_nil, Nat.reduceAdd, Nat.reduceSub, Array.replicate_succ, Array.replicate_zero, List.push_toArray, List.append_toArray, List.nil_append, List.cons_append]
  gi_wp2_with (first
    | (gi_at_call 38; refine (Try.maps_Keys _ _).mono ?_; rintro e w' ⟨rfl, rfl⟩)
    | (gi_at_call 37; refine (Try.slices_Sorted_keys st.m st.fs.length D0 noR w hown (by unfold maxLen; omega) (by omega)).mono ?_; rintro e w' ⟨v, ss, rfl, hS, hrow, hnil, hb⟩))
  go_ret
  have hs := sort_names hL ((hS.trans hk).trans (by have := hp.map FE.s; rwa [List.map_map] at this))
  rw [hs, show ss.length = L.length by have := congrArg List.length hs; simpa using this] at hrow
  exact ⟨v, rfl, ownsRow_base_a hrow (by simp), ((Below.refl _ w).alloc (Nat.le_refl _) _).trans (hb.mono (by simp))⟩
end Go.Proofs.Ytcmbeolicopicaa
