/- An entry of the map, to be appended to. -/
import Derived.Test.YtenkhbiikecegaaGreatNMem
namespace Go.Proofs.YtenkhbiikecegaaGreat
open Go.RowKit Go.Maps Go.ChangeMaps
set_option linter.unusedVariables false
set_option maxRecDepth 100000

theorem RowAt.x {w : World} {K : Nat → Prop} {r : NRow} (h : RowAt w K r) : RowX w 28 (some ⟨r.g, 0, none⟩) r.cap r.g (r.ps.map PV.val) := .inr ⟨rfl, h.max, h.bk⟩
theorem sbk_same {w : World} {m : Nat} {o o' : Obj} (h : w.heap[m]? = some o) : (setBlock w m o').heap[m]? = some o' := by
  have := (Array.getElem?_eq_some_iff.1 h).1
  simp [setBlock, this]
theorem sbk_far {w : World} {m k : Nat} {o' : Obj} (h : k ≠ m) : (setBlock w m o').heap[k]? = w.heap[k]? := by
  simp [setBlock, Array.getElem?_setIfInBounds_ne (fun e => h e.symm)]
/-- A packet is put behind the others of a link. -/
theorem NetAt.addTo {w : World} {K : Nat → Prop} {N : Nat} {st : NSt} (h : NetAt w K N st) {a b : Int} (ha : I64 a) (hb : I64 b) (hf : (sig st a b).length < 64) :
    ∃ A0 c0 g0 es1 ck j e1,
      (Instr.mapEntry 44 (.map (some st.m)) (linkV a b)).run Tryz.prog w = .ok (.tuple #[.slice A0 (sig st a b).length c0, goInt e1.born]) (setBlock w st.m (.map es1.toArray ck)) ∧
      EsOk Tryz.prog 58 es1 ck ∧ es1[j]? = some e1 ∧ RowX w 28 A0 c0 g0 ((sig st a b).map PV.val) ∧ (A0 ≠ none → NOwn st g0 ∧ g0 ≠ st.m) ∧
      ∀ (w' : World) (K' : Nat → Prop) (p : PV) (g' c' : Nat), w'.heap[st.m]? = some (.map (es1.set j { e1 with val := .slice (some ⟨g', 0, none⟩) ((sig st a b).length + 1) c' }).toArray ck) →
        RowX w' 28 (some ⟨g', 0, none⟩) c' g' ((sig st a b).map PV.val ++ [p.val]) → (w.heap.size ≤ g' ∨ (g' = g0 ∧ A0 ≠ none)) →
        (∀ k, k < w.heap.size → k ≠ st.m → (A0 ≠ none → k ≠ g0) → w'.heap[k]? = w.heap[k]?) → w.heap.size ≤ w'.heap.size →
        Dat w' K' p.A p.c p.l → p.l.length ≤ 262144 → (∀ r ∈ st.rows, ∀ q ∈ r.ps, PSep q p) → (∀ k, K k → k < w.heap.size → K' k) →
        ∃ st', NetAt w' K' N st' ∧ (∀ x y, sig st' x y = if a = x ∧ b = y then sig st a b ++ [p] else sig st x y) ∧ st'.m = st.m ∧ ∀ k, NOwn st' k → NOwn st k ∨ w.heap.size ≤ k := by
  obtain ⟨es, ck, h1, h2, h3⟩ := h.map
  obtain ⟨l, hl⟩ := linkKey a b ha hb
  cases hr : rowOf st a b with
  | none =>
    have hno := rowOf_none hr
    have hs : sig st a b = [] := by unfold sig; rw [hr]
    rw [hs]
    have hkne := ent_none h3 hno
    refine ⟨none, 0, 0, _, _, es.length, ({ key := linkV a b, val := .slice none 0 0, born := ck } : MapEntry), run_entry_none linkLaw mapTy h1 h2 hl hkne (zeroRow w), h2.push hl hkne _, by simp, .inl ⟨rfl, rfl, rfl⟩, fun q => absurd rfl q, ?_⟩
    intro w' K' p g' c' q1 q2 q3 q4 q5 q6 q7 q8 q9
    have q3 : w.heap.size ≤ g' := q3.elim id fun q => absurd rfl q.2
    obtain ⟨cm, ext, k1, k2⟩ : c' ≤ maxLen ∧ ∃ ext, Bk w' g' 28 ([p.val] ++ ext) ∧ ([p.val] ++ ext).length = c' := by
      rcases q2 with ⟨q, _⟩ | ⟨_, q, e, k1, k2⟩
      · cases q
      · exact ⟨q, e, by simpa using k1, by simpa using k2⟩
    have hra : RowAt w' K' ⟨a, b, g', c', [p]⟩ := ⟨ha, hb, by simp, by simp, by simp at k2 ⊢; omega, cm, ⟨ext, by simpa using k1, by simpa using k2⟩, fun q hq => by simp at hq; subst hq; exact ⟨q6, q7⟩, by simp⟩
    refine ⟨⟨st.m, st.rows ++ [⟨a, b, g', c', [p]⟩]⟩, h.pushRow hno ?_ (q4 N h.net.lt (fun e => h.netNotOwn (.inl e)) (fun q => absurd rfl q)) (fun s hs => q4 _ (h.glt hs) (h.rowNotMap hs) (fun q => absurd rfl q)) (fun k kl ku => q4 k kl (fun e => (h.notUB ku).1 (.inl e)) (fun q => absurd rfl q)) (fun k kk kl _ => q9 k kk kl) hra ?_ q5, fun x y => ?_, rfl, fun k hk => ?_⟩
    · intro es' ck' e1 _ _
      rw [h1] at e1
      injection e1 with e1
      injection e1 with e1 e2
      obtain rfl : es = es' := by simpa using e1
      subst e2
      rw [q1]
      simp [NRow.key, NRow.val]
    · intro s hs'
      refine ⟨fun e => ?_, fun x hx y hy => ?_⟩
      · have := h.glt hs'
        simp only at e
        omega
      · simp at hy; subst hy; exact q8 s hs' x hx
    · rw [sig_push h.ka hno]
      by_cases hc : a = x ∧ b = y <;> simp [hc]
    · rcases hk with rfl | ⟨s, hs', rfl⟩
      · exact .inl (.inl rfl)
      · simp at hs'
        rcases hs' with hs' | rfl
        · exact .inl (.inr ⟨s, hs', rfl⟩)
        · exact .inr q3
  | some r =>
    obtain ⟨hm, e1, e2⟩ := rowOf_some hr
    have hs : sig st a b = r.ps := by unfold sig; rw [hr]
    rw [hs] at hf ⊢
    obtain ⟨j, hj⟩ := List.mem_iff_getElem?.1 hm
    obtain ⟨e, he, k1, k2⟩ := ent_row h3 hj
    have hre := run_entry_some linkLaw mapTy h1 h2 hl he (k1.trans (by rw [NRow.key, e1, e2]))
    rw [k2, NRow.val] at hre
    have hgne := h.rowNotMap hm
    refine ⟨_, _, r.g, _, _, j, e, hre, h2, he, (h.row r hm).x, fun _ => ⟨.inr ⟨r, hm, rfl⟩, hgne⟩, ?_⟩
    intro w' K' p g' c' q1 q2 q3 q4 q5 q6 q7 q8 q9
    obtain ⟨cm, ext, k3, k4⟩ : c' ≤ maxLen ∧ ∃ ext, Bk w' g' 28 ((r.ps.map PV.val ++ [p.val]) ++ ext) ∧ ((r.ps.map PV.val ++ [p.val]) ++ ext).length = c' := by
      rcases q2 with ⟨q, _⟩ | ⟨_, q, e, k1, k2⟩
      · cases q
      · exact ⟨q, e, k1, k2⟩
    have hR := h.row r hm
    have hun : ∀ k, UB w k → k < w.heap.size → w'.heap[k]? = w.heap[k]? := fun k ku kl => q4 k kl (fun e => (h.notUB ku).1 (.inl e)) (fun _ e => (h.notUB ku).1 (.inr ⟨r, hm, e.symm⟩))
    have hra : RowAt w' K' ⟨a, b, g', c', r.ps ++ [p]⟩ := by
      refine ⟨ha, hb, by simp, by simp; omega, by simp at k4 ⊢; omega, cm, ⟨ext, by simpa using k3, by simpa using k4⟩, fun q hq => ?_, List.pairwise_append.2 ⟨hR.pap, List.pairwise_singleton _ _, fun x hx y hy => by simp at hy; subst hy; exact q8 r hm x hx⟩⟩
      simp at hq
      rcases hq with hq | rfl
      · exact ⟨(hR.narrow.dat q hq).1.keep (fun k hk kl => hun k hk.2 kl) q5 (fun k hk kl => q9 k hk.1 kl), (hR.dat q hq).2⟩
      · exact ⟨q6, q7⟩
    have hap := List.pairwise_iff_getElem.1 h.apart
    have hsep : ∀ i s, i ≠ j → st.rows[i]? = some s → RSep r s := by
      intro i s hi hs'
      obtain ⟨i1, i2⟩ := List.getElem?_eq_some_iff.1 hs'
      obtain ⟨j1, j2⟩ := List.getElem?_eq_some_iff.1 hj
      rcases Nat.lt_or_gt_of_ne hi with q | q
      · have := hap i j i1 j1 q
        rw [i2, j2] at this
        exact this.symm
      · have := hap j i j1 i1 q
        rw [i2, j2] at this
        exact this
    refine ⟨⟨st.m, st.rows.set j ⟨a, b, g', c', r.ps ++ [p]⟩⟩, h.setRow hj e1.symm e2.symm ?_ (q4 N h.net.lt (fun e => h.netNotOwn (.inl e)) (fun _ e => h.netNotOwn (.inr ⟨r, hm, e.symm⟩))) (fun i s hi hs' => ?_) (fun k kl ku => hun k ku kl) (fun k kk kl _ => q9 k kk kl) hra ?_ q5, fun x y => ?_, rfl, fun k hk => ?_⟩
    · intro es' ck' e' f1 _ f2 _ _
      rw [h1] at f1
      injection f1 with f1
      injection f1 with f1 f3
      obtain rfl : es = es' := by simpa using f1
      subst f3
      rw [he] at f2
      injection f2 with f2
      subst f2
      rw [q1]
      simp [NRow.val]
    · have hmem := List.mem_of_getElem? hs'
      exact q4 _ (h.glt hmem) (h.rowNotMap hmem) (fun _ e => (hsep i s hi hs').1 e.symm)
    · intro i s hi hs'
      have hmem := List.mem_of_getElem? hs'
      refine ⟨fun e => ?_, fun x hx y hy => ?_⟩
      · have h9 := h.glt hmem
        have h8 := (hsep i s hi hs').1
        simp only at e
        rcases q3 with q | ⟨q, _⟩
        · omega
        · omega
      · simp at hx
        rcases hx with hx | rfl
        · exact (hsep i s hi hs').2 x hx y hy
        · exact (q8 s hmem y hy).symm
    · rw [sig_set h.ka hj e1.symm e2.symm, e1, e2]
    · rcases hk with rfl | ⟨s, hs', rfl⟩
      · exact .inl (.inl rfl)
      · rcases List.mem_or_eq_of_mem_set hs' with k | rfl
        · exact .inl (.inr ⟨s, k, rfl⟩)
        · rcases q3 with q | ⟨q, _⟩
          · exact .inr q
          · exact .inl (.inr ⟨r, hm, q.symm⟩)
end Go.Proofs.YtenkhbiikecegaaGreat
