/- disk: a disk that is made and used in one go. -/
import Derived.Test.YtcmbeolicopicaaGreatDCr2
import Derived.Test.YtcmbeolicopicaaGreatZ7
namespace Go.Proofs.YtcmbeolicopicaaGreat
open Go.RowKit Go.Maps Go.ChangeMaps
set_option linter.unusedVariables false
set_option linter.unusedSectionVars false
set_option linter.unusedSimpArgs false
set_option maxRecDepth 100000

def zs (k : Nat) : List Int := List.replicate k 0
/-- A disk made since w; rows of zeros X beside it. -/
structure Aw (w : World) (D : Nat) (room : Int) (L : List FE) (n : Nat) (X : List (Nat × Nat)) (W : World) : Prop where
  db : ∃ B : Nat → Prop, DB B D room L n W ∧ (∀ j, B j → w.heap.size ≤ j) ∧ ∀ x ∈ X, ¬ B x.1
  low : Below w.heap.size w W
  arg : ∀ x ∈ X, Bk W x.1 5 (u8s (zs x.2))
section
variable {w : World} {D : Nat} {room : Int} {L : List FE} {n : Nat} {X : List (Nat × Nat)} {W : World}
theorem Aw.below {W' : World} (h : Aw w D room L n X W) (hb : Below W.heap.size W W') : Aw w D room L n X W' := by
  obtain ⟨B, h1, h2, h3⟩ := h.db
  exact ⟨⟨B, h1.below hb, h2, h3⟩, h.low.trans (hb.mono h.low.size), fun x hx => (h.arg x hx).below hb (h.arg x hx).lt⟩
theorem Aw.make (h : Aw w D room L n X W) (k : Nat) : Aw w D room L n ((W.heap.size, k) :: X) (W.alloc (.cells (u8s (zs k)).toArray 5)) := by
  have hb : Below W.heap.size W (W.alloc (.cells (u8s (zs k)).toArray 5)) := (Below.refl _ _).alloc (Nat.le_refl _) _
  obtain ⟨B, h1, h2, h3⟩ := h.db
  refine ⟨⟨B, h1.below hb, h2, fun x hx => ?_⟩, h.low.trans (hb.mono h.low.size), fun x hx => ?_⟩
  · rcases List.mem_cons.1 hx with rfl | hx
    · exact fun q => Nat.lt_irrefl _ (h1.lt q)
    · exact h3 x hx
  · rcases List.mem_cons.1 hx with rfl | hx
    · exact Bk.new W _ _
    · exact (h.arg x hx).below hb (h.arg x hx).lt
theorem Aw.did {B : Nat → Prop} {L' : List FE} {n' : Nat} {W' : World} (h : Aw w D room L n X W) (h2 : ∀ j, B j → w.heap.size ≤ j) (h3 : ∀ x ∈ X, ¬ B x.1) (hd : DDid B D room L' n' W W') : Aw w D room L' n' X W' := by
  obtain ⟨B', p1, p2, p3⟩ := hd
  refine ⟨⟨B', p2, fun j q => (p1 j q).elim (h2 j) (fun q => Nat.le_trans h.low.size q), fun x hx q => ?_⟩, h.low.trans (p3.below h2 h.low.size), fun x hx => (p3.block _ (h.arg x hx).lt (h3 x hx)).trans (h.arg x hx)⟩
  rcases p1 _ q with q | q
  · exact h3 x hx q
  · have := (h.arg x hx).lt; omega
theorem rd_bk {g k : Nat} (hb : Bk W g 5 (u8s (zs k))) (c : Nat) : Rd W (fun b => b = g) (some ⟨g, 0, none⟩) c (u8s (zs k)) := by
  refine ⟨fun e => (by cases e), fun _ => ⟨_, rfl, rfl, fun j u hu => ?_⟩⟩
  have hadd : (⟨g, 0, none⟩ : Addr).add j = ⟨g, j, none⟩ := by unfold Addr.add; split <;> simp_all
  rw [hadd, hb.cell j]
  exact hu
theorem aw_append (h : Aw w D room L n X W) {g k : Nat} (hx : (g, k) ∈ X) (hk : k ≤ 1000) (s : Nm) (hs : s.length ≤ 1000000) (hn : n + 1 ≤ 1000000) (c : Nat) : Calls Tryz.prog 16 #[.pointer (some ⟨D, 0, none⟩), nmV s, .slice (some ⟨g, 0, none⟩) k c] W fun e W' => e = .returned (.int .i64 (appE room L s (zs k))) ∧ Aw w D room (appL room L s (zs k)) (n + 1) X W' := by
  obtain ⟨B, h1, h2, h3⟩ := h.db
  have hl : (zs k).length = k := by simp [zs]
  have := op_append h1 s hs (rd_bk (h.arg _ hx) c) (by rintro b rfl; exact (h.arg _ hx).lt) (by rw [hl]; omega) hn
  rw [hl] at this
  exact this.mono fun e W' q => ⟨q.1, h.did h2 h3 q.2⟩
theorem aw_append_nil (h : Aw w D room L n X W) (s : Nm) (hs : s.length ≤ 1000000) (hn : n + 1 ≤ 1000000) : Calls Tryz.prog 16 #[.pointer (some ⟨D, 0, none⟩), nmV s, .slice none 0 0] W fun e W' => e = .returned (.int .i64 (appE room L s [])) ∧ Aw w D room (appL room L s []) (n + 1) X W' := by
  obtain ⟨B, h1, h2, h3⟩ := h.db
  have := op_append h1 s hs (A := none) (c := 0) (l := []) (Rd.none_ W (fun _ => False) none 0 (fun _ => rfl)) (fun b q => q.elim) (by simp) hn
  exact this.mono fun e W' q => ⟨q.1, h.did h2 h3 q.2⟩
theorem aw_sync (h : Aw w D room L n X W) (s : Nm) (hs : s.length ≤ 1000000) {g : FE} (e : fd L s = some g) : Calls Tryz.prog 18 #[.pointer (some ⟨D, 0, none⟩), nmV s] W fun e W' => e = .returned (.int .i64 0) ∧ Aw w D room (putF L ⟨g.s, g.l, g.l.length⟩) n X W' := by
  obtain ⟨B, ⟨st, h1⟩, h2, h3⟩ := h.db
  obtain ⟨f, j, e1, e2, e3, hj⟩ := fdD_some_of h1 e
  rw [← e2]
  exact (sync_in h1 s hs e1 hj).mono fun e W' q => ⟨q.1, h.did h2 h3 q.2⟩
theorem aw_used (h : Aw w D room L n X W) : Calls Tryz.prog 17 #[.pointer (some ⟨D, 0, none⟩)] W fun e W' => e = .returned (.int .i64 (usedF L)) ∧ Aw w D room L n X W' := by
  obtain ⟨B, h1, h2, h3⟩ := h.db
  exact (op_used h1).mono fun e W' q => ⟨q.1, h.below q.2⟩
theorem aw_crash (h : Aw w D room L n X W) (keep : Int) : Calls Tryz.prog 14 #[.pointer (some ⟨D, 0, none⟩), .int .i64 keep] W fun e W' => e = .returned (.int .i64 0) ∧ Aw w D room (L.map (crF keep)) n X W' := by
  obtain ⟨B, h1, h2, h3⟩ := h.db
  exact (op_crash h1 keep).mono fun e W' q => ⟨q.1, h.did h2 h3 q.2⟩
theorem aw_read (h : Aw w D room L n X W) (s : Nm) (hs : s.length ≤ 1000000) {g : FE} (e : fd L s = some g) : Calls Tryz.prog 8 #[.pointer (some ⟨D, 0, none⟩), nmV s] W fun e W' => ∃ A c, e = .returned (.tuple #[.slice A g.l.length c, .int .i64 0]) ∧ Dat W' (fun b => W.heap.size ≤ b) A c g.l ∧ Aw w D room L n X W' := by
  obtain ⟨B, ⟨st, h1⟩, h2, h3⟩ := h.db
  obtain ⟨f, j, e1, e2, e3, hj⟩ := fdD_some_of h1 e
  rw [← e2]
  exact (read_in h1 s hs e1 hj).mono fun e W' ⟨A, c, q1, q2, q3⟩ => ⟨A, c, q1, q2, h.below q3⟩
theorem aw_list (h : Aw w D room L n X W) : Calls Tryz.prog 20 #[.pointer (some ⟨D, 0, none⟩)] W fun e W' => ∃ v, e = .returned v ∧ W'.ownsRow W.heap.size 9 1 v L.length (L.map fun f => nmV f.s) ∧ Aw w D room L n X W' := by
  obtain ⟨B, h1, h2, h3⟩ := h.db
  exact (op_list h1).mono fun e W' ⟨v, q1, q2, q3⟩ => ⟨v, q1, q2, h.below q3⟩
end
theorem aw_new (room : Int) (w : World) : Calls Tryz.prog 5 #[.int .i64 room] w fun e w' => ∃ D, e = .returned (.pointer (some ⟨D, 0, none⟩)) ∧ Aw w D (max room 0) [] 0 [] w' :=
  (op_new room w).mono fun e w' ⟨D, q1, ⟨B, q2, q3⟩, q4⟩ => ⟨D, q1, ⟨⟨B, q3, q2, fun x hx => (by cases hx)⟩, q4, fun x hx => (by cases hx)⟩⟩
end Go.Proofs.YtcmbeolicopicaaGreat

