/- text, the walk: a line that is no line, an empty line, a mark's line. -/
import Derived.Test.YtjebjninlejoeaaGreatDoorX25
namespace Go.Proofs.YtjebjninlejoeaaGreatDoor
open Go.RowKit Go.Maps Go.ChangeMaps
set_option linter.unusedVariables false
set_option linter.unusedSimpArgs false
set_option linter.unusedSectionVars false
set_option maxRecDepth 100000

theorem line_bad (s : Nm) (hs : s.length ≤ 1000000) (n : Int) (P : Nat) {B : Nat} (w : World) (hv : Tv B w) (hB : B ≤ w.heap.size) (ht : toks s = none) : Calls Tryz.prog 27 #[.pointer (some ⟨P, 0, none⟩), .string ⟨s.toArray⟩, .int .i64 n] w fun x w' => x = Thrown 120 n ∧ Below w.heap.size w w' := by
  have hS := split_any s hs n w hv hB
  rw [ht] at hS
  have hS' : Calls _ _ _ _ fun x w' => x = Thrown 120 n ∧ Below w.heap.size w w' := hS
  clear ht hS
  go_enter Tryz.func27, Tryz.ntmps27
  go_wp2_with fail
  (with_reducible refine hS'.mono ?_)
  rintro _ w1 ⟨rfl, b1⟩
  exact ⟨rfl, rfl, b1⟩
theorem line_none (s : Nm) (hs : s.length ≤ 1000000) (n : Int) (P : Nat) {B : Nat} (w : World) (hv : Tv B w) (hB : B ≤ w.heap.size) (ht : toks s = some []) : Calls Tryz.prog 27 #[.pointer (some ⟨P, 0, none⟩), .string ⟨s.toArray⟩, .int .i64 n] w fun x w' => x = .returned (.tuple #[]) ∧ Below w.heap.size w w' := by
  have hS := split_any s hs n w hv hB
  rw [ht] at hS
  have hS' : Calls _ _ _ _ fun x w' => ∃ N c A, x = .returned (.pointer (some ⟨N, 0, none⟩)) ∧ w'.cell? ⟨N, 0, none⟩ = some (.slice A 0 c) ∧ Below w.heap.size w w' := hS.mono fun x w' ⟨N, h1, h2, h3, h4⟩ => by
    obtain ⟨A, c, hb, hr⟩ := h2.row
    exact ⟨N, c, A, h1, hb.cell 0, h4⟩
  clear ht hS
  go_enter Tryz.func27, Tryz.ntmps27
  go_wp2_with fail
  (with_reducible refine hS'.mono ?_)
  rintro _ w1 ⟨N, c, A, rfl, c0, b1⟩
  go_wp2_with fail
  exact ⟨rfl, .tuple #[], by simp [results, Tryz.results27, go_sem], rfl, b1⟩
/-- A mark's line. -/
theorem line_mark (s : Nm) (hs : s.length ≤ 1000000) (n : Int) {B P Wm M : Nat} {st : PS} {vo vj : Value} (w : World) (hv : Tv B w) (hB : B ≤ w.heap.size) {a : Nm} (ht : toks s = some [a, [58]]) (ha : labelP a = true) (hsm : a.length ≤ 1000000) {D : Nat} (hp : PsAt w D P Wm M st vo vj) (hn : hasM st.marks a = none) : Calls Tryz.prog 27 #[.pointer (some ⟨P, 0, none⟩), .string ⟨s.toArray⟩, .int .i64 n] w fun x w' => x = .returned (.tuple #[]) ∧ PsAt w' D P Wm M { st with marks := st.marks ++ [(a, st.out.length)] } vo vj ∧ Ag (fun b => b ≠ M) w w' := by
  have hS := split_any s hs n w hv hB
  rw [ht] at hS
  obtain ⟨Ao, mo, co, hvo, hmo⟩ : ∃ Ao mo co, vo = .slice Ao mo co ∧ mo = st.out.length := by
    rcases hp.out.2 with ⟨h1, h2⟩ | ⟨g, cap, cur, h1, -⟩
    · exact ⟨_, _, _, h1, h2.symm⟩
    · exact ⟨_, _, _, h1, rfl⟩
  have hS' : Calls _ _ _ _ fun x w' => ∃ N c A, x = .returned (.pointer (some ⟨N, 0, none⟩)) ∧ w'.cell? ⟨N, 0, none⟩ = some (.slice A 2 c) ∧ (Hid (Below w.heap.size w w') ∧ Hid (Calls Tryz.prog 67 #[.pointer (some ⟨P, 0, none⟩), .pointer (some ⟨N, 0, none⟩)] w' fun x w'' => x = .returned (.bool true) ∧ Hid (PsAt w'' D P Wm M { st with marks := st.marks ++ [(a, st.out.length)] } vo vj) ∧ Hid (MapTo M w' w''))) := hS.mono fun x w' ⟨N, h1, h2, h3, h4⟩ => by
    obtain ⟨A, c, hb, hr⟩ := h2.row
    have hp' := hp.below h4
    refine ⟨N, c, A, h1, hb.cell 0, Lib.hid h4, Lib.hid ?_⟩
    subst hvo
    have := mark_new h2 hsm ha hp'.bk hp'.marks (by simp [hn])
    refine this.mono fun y w2 ⟨e1, e2, e3⟩ => ⟨e1, Lib.hid ?_, Lib.hid e2⟩
    subst hmo
    exact hp'.marked hn _ e2 e3
  have hMl := Lib.hid hp.marks.lt
  clear ht hS hp hn hvo hmo
  go_enter Tryz.func27, Tryz.ntmps27
  go_wp2_with fail
  (with_reducible refine hS'.mono ?_)
  rintro _ w1 ⟨N, c, A, rfl, c0, b1, hk⟩
  clear hS'
  go_wp2_with fail
  (with_reducible refine hk.out.mono ?_)
  rintro _ w2 ⟨rfl, p2, t2⟩
  clear hk
  go_wp2_with fail
  refine ⟨rfl, .tuple #[], by simp [results, Tryz.results27, go_sem], rfl, p2.out, ?_⟩
  have hb := b1.out
  have ht := t2.out
  exact ⟨ht.os.trans hb.os, ht.tape.trans hb.tape, ht.output.trans hb.output, by rw [ht.size]; exact hb.size, fun k hk hne => (ht.far k hne).trans (hb.block k hk)⟩
end Go.Proofs.YtjebjninlejoeaaGreatDoor

