/- disk: DiskSafe: a copy lives through the other one's crash. -/
import Derived.Test.YtcmbeolicopicaaDSafe7
import Derived.Test.YtcmbeolicopicaaDAwk
namespace Go.Proofs.Ytcmbeolicopicaa
open Go.RowKit Go.Maps Go.ChangeMaps
set_option linter.unusedVariables false
set_option linter.unusedSectionVars false
set_option linter.unusedSimpArgs false
set_option maxRecDepth 100000

section
variable {w : World} {D m1 m2 : Nat} {v : Value} {g : Nat} {L : List FE} {ns : List Nm} {al sl : Nm → Option Value} {n : Nat} {W : World} (h : SI w D m1 m2 v g L ns al sl n W)
include h
theorem SI.used : Calls Try.prog 14 #[.pointer (some ⟨D, 0, none⟩)] W fun e W' => e = .returned (.int .i64 (usedF L)) ∧ Below W.heap.size W W' := bx_used h.bx
theorem SI.copy (hn : n ≤ 100) : Calls Try.prog 13 #[.pointer (some ⟨D, 0, none⟩)] W fun e W' => ∃ D2 B2, e = .returned (.pointer (some ⟨D2, 0, none⟩)) ∧ DB B2 D2 1048576 L n W' ∧ (∀ j, B2 j → W.heap.size ≤ j) ∧ Below W.heap.size W W' := by
  refine (bx_copy h.bx (by omega)).mono ?_
  rintro x W' ⟨D2, q1, ⟨⟨B2, p1, p2, _⟩, _, _⟩, q3⟩
  exact ⟨D2, B2, q1, p1, p2, q3⟩
theorem SI.crash2 {B2 : Nat → Prop} {D2 : Nat} {r : Int} {L2 : List FE} {n2 : Nat} {W' : World} (hc : DB B2 D2 r L2 n2 W') (h2 : ∀ j, B2 j → W.heap.size ≤ j) (hb : Below W.heap.size W W') (keep : Int) : Calls Try.prog 10 #[.pointer (some ⟨D, 0, none⟩), .int .i64 keep] W' fun e W2 => e = .returned (.int .i64 0) ∧ SI w D m1 m2 v g (L.map (crF keep)) ns al sl n W2 ∧ DB B2 D2 r L2 n2 W2 := by
  have h1 := h.below hb
  obtain ⟨B, q1, q2, q3⟩ := h.bx.db
  have x : Bx w D 1048576 L n (fun j => (j = m1 ∨ j = m2 ∨ v.ownBlock = some j) ∨ B2 j) W' := by
    refine ⟨⟨B, q1.below hb, q2, fun x hx q => ?_⟩, fun x hx => ?_, h1.bx.low⟩
    · rcases hx with hx | hx
      · exact q3 x hx q
      · have := h2 x hx
        have := q1.lt q
        omega
    · rcases hx with hx | hx
      · exact h1.lt x hx
      · exact hc.lt hx
  refine (bx_crash x keep).mono fun e W2 q => ⟨q.1, h1.ag (q.2.1.less fun j hj => .inl hj) (q.2.2.mono fun j _ hj => .inl hj), hc.keep (fun j hj => q.2.2.block j (hc.lt hj) (.inr hj)) q.2.2.size⟩
theorem SI.list : Calls Try.prog 16 #[.pointer (some ⟨D, 0, none⟩)] W fun e W' => ∃ A c, e = .returned (.slice A L.length c) ∧ Below W.heap.size W W' := by
  refine (bx_list h.bx).mono ?_
  rintro x W' ⟨v, q1, q2, q3⟩
  have q2' : W'.ownsRow W.heap.size 9 1 v (L.map FE.s).length ((L.map FE.s).map nmV) := by
    rw [List.length_map, List.map_map]; exact q2
  obtain ⟨A, c, rfl, _⟩ := owned_nms q2'
  refine ⟨A, c, ?_, q3⟩
  rw [q1, List.length_map]
end
theorem info_str : (Try.prog.info? 9).map (fun i => (i.zero, i.size, i.bytes)) = some (some (.string ⟨#[]⟩), 1, 16) := by kernel_rfl
theorem new1 (w : World) (u : Value) (t : TypeId) : ∀ j v, [u][j]? = some v → (w.alloc (.cells #[u] t)).cell? ((⟨w.heap.size, 0, none⟩ : Addr).add j) = some v := by
  exact news_new w [u] t
end Go.Proofs.Ytcmbeolicopicaa

