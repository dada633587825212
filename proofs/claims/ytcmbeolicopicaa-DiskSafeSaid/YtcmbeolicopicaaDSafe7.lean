/- disk: DiskSafe's steps, at its state. -/
import Derived.Test.YtcmbeolicopicaaDSafe6
namespace Go.Proofs.Ytcmbeolicopicaa
open Go.RowKit Go.Maps Go.ChangeMaps
set_option linter.unusedVariables false
set_option linter.unusedSectionVars false
set_option linter.unusedSimpArgs false
set_option maxRecDepth 100000

theorem Bx.less {w : World} {D : Nat} {room : Int} {L : List FE} {n : Nat} {F F' : Nat → Prop} {W : World} (h : Bx w D room L n F W) (hF : ∀ j, F' j → F j) : Bx w D room L n F' W := by
  obtain ⟨B, h1, h2, h3⟩ := h.db
  exact ⟨⟨B, h1, h2, fun x hx => h3 x (hF x hx)⟩, fun x hx => h.lt x (hF x hx), h.low⟩
theorem bx_new (room : Int) (w : World) : Calls Try.prog 6 #[.int .i64 room] w fun e w' => ∃ D, e = .returned (.pointer (some ⟨D, 0, none⟩)) ∧ Bx w D (max room 0) [] 0 (fun _ => False) w' :=
  (op_new room w).mono fun e w' ⟨D, q1, ⟨B, q2, q3⟩, q4⟩ => ⟨D, q1, ⟨⟨B, q3, q2, fun x hx => hx.elim⟩, fun x hx => hx.elim, q4⟩⟩
theorem Bx.since {w w1 : World} {D : Nat} {room : Int} {L : List FE} {n : Nat} {F : Nat → Prop} {W : World} (h : Bx w1 D room L n F W) (hb : Below w.heap.size w w1) : Bx w D room L n F W := by
  obtain ⟨B, h1, h2, h3⟩ := h.db
  exact ⟨⟨B, h1, fun j q => Nat.le_trans hb.size (h2 j q), h3⟩, h.lt, hb.trans (h.low.mono hb.size)⟩
theorem mf_new (w : World) : Mf (w.alloc (.map #[] 0)) w.heap.size (fun _ => none) := by
  refine ⟨[], ⟨[], 0, heap_alloc_new w _, ?_, rfl⟩, List.Pairwise.nil, fun _ => rfl⟩
  exact EsOk.nil _ _
theorem SI.start {w : World} {D : Nat} {W : World} (h : Bx w D 1048576 [] 0 (fun _ => False) W) : SI w D W.heap.size (W.heap.size + 1) (.slice none 0 0) 0 [] [] (fun _ => none) (fun _ => none) 0 ((W.alloc (.map #[] 0)).alloc (.map #[] 0)) := by
  have b1 : Below W.heap.size W (W.alloc (.map #[] 0)) := (Below.refl _ _).alloc (Nat.le_refl _) _
  have b2 : Below (W.alloc (.map #[] 0)).heap.size (W.alloc (.map #[] 0)) ((W.alloc (.map #[] 0)).alloc (.map #[] 0)) := (Below.refl _ _).alloc (Nat.le_refl _) _
  have x1 := h.more b1 (g := W.heap.size) (Nat.le_refl _) (by simp)
  have x2 := x1.more b2 (g := W.heap.size + 1) (by simp) (by simp)
  have m2 := mf_new (W.alloc (.map #[] 0))
  rw [World.size_alloc] at m2
  refine ⟨x2.less ?_, ⟨h.low.size, Nat.le_trans h.low.size (Nat.le_succ _), fun j e => (by cases e)⟩, ⟨by omega, fun e => (by cases e), fun e => (by cases e)⟩, (mf_new W).keep (b2.block _ (by simp)), m2, Row.nil _ _ _ _⟩
  rintro j (rfl | rfl | e)
  · exact .inl (.inr rfl)
  · exact .inr rfl
  · cases e
section
variable {w : World} {D m1 m2 : Nat} {v : Value} {g : Nat} {L : List FE} {ns : List Nm} {al sl : Nm → Option Value} {n : Nat} {W : World} (h : SI w D m1 m2 v g L ns al sl n W)
include h
theorem SI.append {k : Nat} (hq : Sq L ns al sl k) (hk : k ≤ 100) (hn : n ≤ 100) {s u : Nm} (hok : okN s = true) (hs : s.length ≤ 24) (hu : u.length ≤ 400) {K : Nat → Prop} {A : Option Addr} {c : Nat} (ha : Rd W K A c (u8s (bI u))) (hK : ∀ b, K b → b < W.heap.size) : Calls Try.prog 15 #[.pointer (some ⟨D, 0, none⟩), nmV s, .slice A u.length c] W fun e W' => e = .returned (.int .i64 0) ∧ SI w D m1 m2 v g (appL 1048576 L s (bI u)) ns al sl (n + 1) W' := by
  have hl : (bI u).length = u.length := by simp [bI]
  have := bx_append h.bx s (by omega) ha hK (by omega) (by omega)
  rw [hl, hq.app_ok hok hu hk] at this
  exact this.mono fun e W' q => ⟨q.1, h.ag q.2.1 q.2.2⟩
theorem SI.sync (s : Nm) (hs : s.length ≤ 24) {k : Nat} (hq : Sq L ns al sl k) : Calls Try.prog 8 #[.pointer (some ⟨D, 0, none⟩), nmV s] W fun e W' => ∃ (L' : List FE) (z : Int), e = .returned (.int .i64 z) ∧ (decide (z = 0)) = decide (s ∈ ns) ∧ SI w D m1 m2 v g L' ns al sl n W' ∧ Sq L' ns al (upF sl s (.int .i64 ((tB (oldF L s)).length : Nat))) (k + 1) := by
  have hl : (tB (oldF L s)).length = (oldF L s).length := by simp [tB]
  rw [hl]
  cases e : fd L s with
  | none =>
    refine (bx_sync_out h.bx s (by omega) e).mono fun x W' q => ⟨L, 6, q.1, ?_, by rw [← q.2]; exact h, ?_⟩
    · have : s ∉ ns := fun hm => by obtain ⟨g, hg⟩ := (hq.mem s).1 hm; rw [e] at hg; cases hg
      simp [this]
    · have := hq.sync_out e
      unfold oldF
      rw [e]
      exact this
  | some f =>
    refine (bx_sync_in h.bx s (by omega) e).mono fun x W' q => ⟨_, 0, q.1, ?_, h.ag q.2.1 q.2.2, ?_⟩
    · simp [(hq.mem s).2 ⟨f, e⟩]
    · have := hq.sync_in e
      unfold oldF
      rw [e]
      exact this
theorem SI.crash (keep : Int) : Calls Try.prog 10 #[.pointer (some ⟨D, 0, none⟩), .int .i64 keep] W fun e W' => e = .returned (.int .i64 0) ∧ SI w D m1 m2 v g (L.map (crF keep)) ns al sl n W' :=
  (bx_crash h.bx keep).mono fun e W' q => ⟨q.1, h.ag q.2.1 q.2.2⟩
theorem SI.read (s : Nm) (hs : s.length ≤ 24) {f : FE} (e : fd L s = some f) (hr : ∀ x ∈ f.l, 0 ≤ x ∧ x < 256) : Calls Try.prog 11 #[.pointer (some ⟨D, 0, none⟩), nmV s] W fun e W' => ∃ A c, e = .returned (.tuple #[.slice A (tB f.l).length c, .int .i64 0]) ∧ Rd W' (fun b => W.heap.size ≤ b ∧ b < W'.heap.size) A c (u8s (bI (tB f.l))) ∧ SI w D m1 m2 v g L ns al sl n W' := by
  have hl : (tB f.l).length = f.l.length := by simp [tB]
  rw [hl, bI_tB hr]
  refine (bx_read h.bx s (by omega) e).mono ?_
  rintro x W' ⟨A, c, q1, q2, q3⟩
  exact ⟨A, c, q1, q2.rd.1, h.below q3⟩
end
end Go.Proofs.Ytcmbeolicopicaa

