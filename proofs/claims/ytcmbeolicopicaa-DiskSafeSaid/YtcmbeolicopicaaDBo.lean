/- disk: the disk's functions, at Bx. -/
import Derived.Test.YtcmbeolicopicaaDBx
namespace Go.Proofs.Ytcmbeolicopicaa
open Go.RowKit Go.Maps Go.ChangeMaps
set_option linter.unusedVariables false
set_option linter.unusedSectionVars false
set_option linter.unusedSimpArgs false
set_option maxRecDepth 100000

section
variable {w : World} {D : Nat} {room : Int} {L : List FE} {n : Nat} {F : Nat → Prop} {W : World}
theorem bx_append (h : Bx w D room L n F W) (s : Nm) (hs : s.length ≤ 1000000) {K : Nat → Prop} {A : Option Addr} {c : Nat} {l : List Int} (ha : Rd W K A c (u8s l)) (hK : ∀ b, K b → b < W.heap.size) (hl : l.length ≤ 8388609) (hn : n + 1 ≤ 1000000) : Calls Try.prog 15 #[.pointer (some ⟨D, 0, none⟩), nmV s, .slice A l.length c] W fun e W' => e = .returned (.int .i64 (appE room L s l)) ∧ Bx w D room (appL room L s l) (n + 1) F W' ∧ Ag F W W' := by
  obtain ⟨B, h1, h2, h3⟩ := h.db
  exact (op_append h1 s hs ha hK hl hn).mono fun e W' q => ⟨q.1, h.did h2 h3 q.2⟩
theorem bx_sync_in (h : Bx w D room L n F W) (s : Nm) (hs : s.length ≤ 1000000) {g : FE} (e : fd L s = some g) : Calls Try.prog 8 #[.pointer (some ⟨D, 0, none⟩), nmV s] W fun e W' => e = .returned (.int .i64 0) ∧ Bx w D room (putF L ⟨g.s, g.l, g.l.length⟩) n F W' ∧ Ag F W W' := by
  obtain ⟨B, ⟨st, h1⟩, h2, h3⟩ := h.db
  obtain ⟨f, j, e1, e2, e3, hj⟩ := fdD_some_of h1 e
  rw [← e2]
  exact (sync_in h1 s hs e1 hj).mono fun e W' q => ⟨q.1, h.did h2 h3 q.2⟩
theorem bx_sync_out (h : Bx w D room L n F W) (s : Nm) (hs : s.length ≤ 1000000) (e : fd L s = none) : Calls Try.prog 8 #[.pointer (some ⟨D, 0, none⟩), nmV s] W fun e W' => e = .returned (.int .i64 6) ∧ W = W' := by
  obtain ⟨B, ⟨st, h1⟩, h2, h3⟩ := h.db
  exact sync_out h1 s hs e
theorem bx_used (h : Bx w D room L n F W) : Calls Try.prog 14 #[.pointer (some ⟨D, 0, none⟩)] W fun e W' => e = .returned (.int .i64 (usedF L)) ∧ Below W.heap.size W W' := by
  obtain ⟨B, h1, h2, h3⟩ := h.db
  exact op_used h1
theorem bx_crash (h : Bx w D room L n F W) (keep : Int) : Calls Try.prog 10 #[.pointer (some ⟨D, 0, none⟩), .int .i64 keep] W fun e W' => e = .returned (.int .i64 0) ∧ Bx w D room (L.map (crF keep)) n F W' ∧ Ag F W W' := by
  obtain ⟨B, h1, h2, h3⟩ := h.db
  exact (op_crash h1 keep).mono fun e W' q => ⟨q.1, h.did h2 h3 q.2⟩
theorem bx_read (h : Bx w D room L n F W) (s : Nm) (hs : s.length ≤ 1000000) {g : FE} (e : fd L s = some g) : Calls Try.prog 11 #[.pointer (some ⟨D, 0, none⟩), nmV s] W fun e W' => ∃ A c, e = .returned (.tuple #[.slice A g.l.length c, .int .i64 0]) ∧ Dat W' (fun b => W.heap.size ≤ b) A c g.l ∧ Below W.heap.size W W' := by
  obtain ⟨B, ⟨st, h1⟩, h2, h3⟩ := h.db
  obtain ⟨f, j, e1, e2, e3, hj⟩ := fdD_some_of h1 e
  rw [← e2]
  exact read_in h1 s hs e1 hj
theorem bx_copy (h : Bx w D room L n F W) (hn : n + 1 ≤ 1000000) : Calls Try.prog 13 #[.pointer (some ⟨D, 0, none⟩)] W fun e W' => ∃ D2, e = .returned (.pointer (some ⟨D2, 0, none⟩)) ∧ Bx W D2 (max room 0) L n (fun j => j < W.heap.size) W' ∧ Below W.heap.size W W' := by
  obtain ⟨B, h1, h2, h3⟩ := h.db
  refine (op_copy h1 hn).mono ?_
  rintro e W' ⟨D2, q1, ⟨B2, q2, q3⟩, q4⟩
  exact ⟨D2, q1, ⟨⟨B2, q3, q2, fun x hx q => by have := q2 x q; omega⟩, fun x hx => Nat.lt_of_lt_of_le hx q4.size, q4⟩, q4⟩
theorem bx_list (h : Bx w D room L n F W) : Calls Try.prog 16 #[.pointer (some ⟨D, 0, none⟩)] W fun e W' => ∃ v, e = .returned v ∧ W'.ownsRow W.heap.size 9 1 v L.length (L.map fun f => nmV f.s) ∧ Below W.heap.size W W' := by
  obtain ⟨B, h1, h2, h3⟩ := h.db
  exact op_list h1
end
end Go.Proofs.Ytcmbeolicopicaa

