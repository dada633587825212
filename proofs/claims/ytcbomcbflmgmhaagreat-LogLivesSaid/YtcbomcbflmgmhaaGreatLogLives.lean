/-
  LogLives: for every input the law returns true, and each argument reads behind the call as it read before; no condition of its own.
-/
import Derived.Test.YtcbomcbflmgmhaaGreatRows
import Derived.Test.YtcbomcbflmgmhaaGreatKLives
import Derived.WalkKit
import Derived.ProofKit
import Derived.OpenShut
import Derived.ShutString
import Derived.ChangeOld
import Derived.Below
namespace Go.Proofs.YtcbomcbflmgmhaaGreat.logLives
open Go.ChangeShapes Go.WideShapes Go.ChangeAt Go.RowKit Go.Deep
open Go.ChangeMaps (open_string shut_string)
set_option linter.unusedVariables false

theorem own : ownKnob Tryz.prog.godebug = none := by kernel_rfl
theorem laidOut : laidOutB Tryz.prog = true := by kernel_rfl
theorem cells34d : Tryz.prog.cellsOf 34 = 5 := by kernel_rfl
theorem cells22d : Tryz.prog.cellsOf 22 = 1 := by kernel_rfl
theorem cells3d : Tryz.prog.cellsOf 3 = 1 := by kernel_rfl
section
variable {H : Type} {enc : TypeId × Value → H}
set_option maxRecDepth 100000 in
theorem came_do {W : World} {fuel : Nat} {cs : List Value} {x : DataW H × List MemPlace} (h : DataW.trod enc Tryz.prog W 0 (fun _ => true) true fuel 34 cs = some x) :
    ∃ e A c, cs = doV e A c ∧ Ents W (fun b => b < W.heap.size) A c e.ns := by
  obtain ⟨xs, n, rfl, hx, hcl, hxl, hf⟩ := DataW.trod_struct Tryz.underlying34 h
  have hc : cs.length = 5 := hcl.trans (by kernel_rfl)
  match cs, hc with
  | [c0, c1, c2, c3, c4], _ =>
    match xs, hxl with
    | [y0, y1, y2, y3, y4], _ =>
      have h0 := hf 0 _ rfl
      have h1 := hf 1 _ rfl
      have h2 := hf 2 _ rfl
      have h3 := hf 3 _ rfl
      have h4 := hf 4 _ rfl
      simp [cells3d, cells22d] at h0 h1 h2 h3 h4
      obtain ⟨n0, e0, _⟩ := DataW.trod_int Tryz.underlying3 h0
      obtain ⟨n1, e1, _⟩ := DataW.trod_int Tryz.underlying3 h1
      obtain ⟨n2, e2, _⟩ := DataW.trod_int Tryz.underlying3 h2
      obtain ⟨n3, e3, _⟩ := DataW.trod_int Tryz.underlying3 h3
      obtain ⟨A, c, es, e4, he⟩ := came_entries h4
      injection e0 with e0
      injection e1 with e1
      injection e2 with e2
      injection e3 with e3
      exact ⟨⟨n0, n1, n2, n3, es⟩, A, c, by rw [e0, e1, e2, e3, e4]; rfl, he⟩
theorem came_dos {W : World} {fuel : Nat} {v : Value} {x : DataW H × List MemPlace} (h : DataW.trod enc Tryz.prog W 0 (fun _ => true) true fuel 23 [v] = some x) :
    ∃ A c es, v = .slice A (List.length es) c ∧ Dos W (fun b => b < W.heap.size) A c es := by
  rcases open_slice Tryz.underlying23 h with ⟨hcs, _⟩ | ⟨a, len, cap, m, n, D, Pl, hcs, hb, hl, hm, hmm, hx, hi⟩
  · injection hcs with hcs
    subst hcs
    exact ⟨none, 0, [], rfl, fun _ => rfl, Nat.le_refl _, by decide, fun h => absurd rfl h⟩
  · injection hcs with hcs
    subst hcs
    simp at hmm
    subst hmm
    rw [cells34d] at hi
    have each : ∀ i, i < len → ∃ e, DoAt W (fun b => b < W.heap.size) (a.add (i * 5)) e := by
      intro i hil
      obtain ⟨cs', hc, ht⟩ := hi i (by omega)
      obtain ⟨_, hcl, hat⟩ := World.cells?_some hc
      obtain ⟨e, A, c, rfl, hr⟩ := came_do ht
      refine ⟨e, A, c, ?_, fun j hj => hat j hj, hr⟩
      have h3 := hat 0 (by omega)
      have h4 := World.block_lt_of_cell? W _ (h3.trans (by rfl : (doV e A c)[0]? = some (.int .i64 e.op)))
      rw [add_blk] at h4
      exact h4
    have hne : Nonempty Dst := ⟨⟨0, 0, 0, 0, []⟩⟩
    obtain ⟨f, hf⟩ : ∃ f : Nat → Dst, ∀ i, i < len → DoAt W (fun b => b < W.heap.size) (a.add (i * 5)) (f i) := by
      refine ⟨fun i => if hi : i < len then Classical.choose (each i hi) else ⟨0, 0, 0, 0, []⟩, fun i hi => ?_⟩
      simp only [dif_pos hi]
      exact Classical.choose_spec (each i hi)
    refine ⟨some a, m, (List.range len).map f, by simp, fun e => (by cases e), by simpa using hl, hm, fun _ => ⟨a, rfl, ?_⟩⟩
    intro i e hie
    simp only [List.getElem?_map] at hie
    by_cases hil : i < len
    · simp [hil] at hie
      subst hie
      exact hf i hil
    · simp [hil] at hie
end
set_option maxRecDepth 100000 in
theorem lifted (os : Os) (started : os.Started) (H : Type) (enc : TypeId × Value → H) :
    ReturnsInHanded {} Tryz.checked os 3 .any (Rows.logLivesSpec.pre6 enc Tryz.prog Tryz.f3 Rows.logLivesRow.domain false) (Rows.logLivesSpec.post enc Tryz.prog Tryz.f3 false true false false) := by
  refine returnsInHanded_of_change (C := Tryz.checked) own started (by kernel_rfl) Tryz.func3
    (ChangeSpec.witness6 (enc := enc) (C := Tryz.checked) false ⟨#[], #[.slice none 0 0, .slice none 0 0], []⟩ 8 (by kernel_rfl) (by kernel_rfl) (by kernel_rfl) (by kernel_rfl)) ?_
  intro W base args ds gs before hval0 hW hcnd _
  have hval : ∀ (j : Nat) t v, Tryz.f3.params[j]? = some t → args[j]? = some v → Value.okWide Tryz.prog W .any base t v := hval0
  have hW' := hW
  obtain ⟨p, q, hA0, hV, rfl, hfz, hnd⟩ := hW
  have hA : DataW.TrodAll enc Tryz.prog W 0 (fun _ => true) true Tryz.f3.params.toList args.toList ds p := hA0
  rw [Tryz.params3] at hA hval
  obtain ⟨v0, vs0, d0, ds0, p0, q0, hargs, rfl, rfl, h0, r0⟩ := trodAll_cons hA
  obtain ⟨v1, vs1, d1, ds1, p1, q1, rfl, rfl, rfl, h1, r1⟩ := trodAll_cons r0
  obtain ⟨rfl, rfl, rfl⟩ := trodAll_nil r1
  obtain rfl : args = #[v0, v1] := by cases args; simp_all
  obtain ⟨rfl, rfl⟩ := trodVars_none hV
  have k0 := h0
  have lt0 : ∀ x ∈ p0, x.block < W.heap.size := by obtain ⟨m, hm⟩ := k0; exact DataW.trod_lt m _ _ _ hm
  have k1 := h1
  have lt1 : ∀ x ∈ p1, x.block < W.heap.size := by obtain ⟨m, hm⟩ := k1; exact DataW.trod_lt m _ _ _ hm
  obtain ⟨b0, len0, cap0, rfl⟩ := okWide_slice Tryz.underlying22 (hval 0 22 v0 rfl rfl)
  obtain ⟨b1, len1, cap1, rfl⟩ := okWide_slice Tryz.underlying23 (hval 1 23 v1 rfl rfl)
  obtain ⟨es, rfl, e0⟩ : ∃ es : List En, len0 = es.length ∧ Ents W (fun b => b < W.heap.size) b0 cap0 es := by
    obtain ⟨fuel, hf⟩ := h0
    obtain ⟨A, c, es, hv, he⟩ := came_entries hf
    injection hv with q1 q2 q3
    subst q1 q2 q3
    exact ⟨es, rfl, he⟩
  obtain ⟨xs, rfl, e1⟩ : ∃ es : List Dst, len1 = es.length ∧ Dos W (fun b => b < W.heap.size) b1 cap1 es := by
    obtain ⟨fuel, hf⟩ := h1
    obtain ⟨A, c, es, hv, he⟩ := came_dos hf
    injection hv with q1 q2 q3
    subst q1 q2 q3
    exact ⟨es, rfl, he⟩
  clear hA0 hval0
  refine (LogLives_any (fun b => b < W.heap.size) b0 cap0 es b1 cap1 xs W e0 e1 (fun _ h => h)).mono fun e W' ⟨he, bel⟩ => ?_
  subst he
  exact ⟨_, rfl, _, _, _, [], _, [], hW', trodAll_mk1 (shut_bool Tryz.underlying4 _), (trodAll_cons_mk (Below.trod laidOut (by kernel_rfl) (of_decide_eq_true (by kernel_rfl)) k0 bel lt0) (trodAll_cons_mk (Below.trod laidOut (by kernel_rfl) (of_decide_eq_true (by kernel_rfl)) k1 bel lt1) trodAll_mk0)), rfl, bel.frame _, fun h => by cases h⟩

theorem over : Rows.logLivesRow.holds Tryz.pinned (OpenSpec.ofChange Rows.logLivesSpec) :=
  OpenClaim.holds_of_wide 3 Tryz.f3 rfl rfl rfl rfl rfl rfl rfl ⟨rfl, rfl, rfl, rfl, rfl⟩ rfl rfl rfl rfl rfl (by kernel_rfl) Tryz.func3 (by kernel_rfl)
    (of_decide_eq_true (by kernel_rfl)) (by unfold Func.isWrapper; first | (rw [if_pos (by decide +kernel)]; kernel_rfl) | (rw [if_neg (by decide +kernel)]; exact ⟨rfl, rfl⟩))
    (fun os started H enc _ => lifted os started H enc)

theorem proved : Rows.LogLivesSaid := over
#print axioms proved
end Go.Proofs.YtcbomcbflmgmhaaGreat.logLives
