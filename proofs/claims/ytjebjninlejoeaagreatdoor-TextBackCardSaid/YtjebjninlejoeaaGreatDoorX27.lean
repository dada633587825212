/- text, the walk: a mark that was set before; a line of an unknown word. -/
import Derived.Test.YtjebjninlejoeaaGreatDoorX26
namespace Go.Proofs.YtjebjninlejoeaaGreatDoor
open Go.RowKit Go.Maps Go.ChangeMaps
set_option linter.unusedVariables false
set_option linter.unusedSimpArgs false
set_option linter.unusedSectionVars false
set_option maxRecDepth 100000

/-- A mark that was set before. -/
theorem line_twice (s : Nm) (hs : s.length ≤ 1000000) (n : Int) {B P Wm M : Nat} {st : PS} {vo vj : Value} (w : World) (hv : Tv B w) (hB : B ≤ w.heap.size) {a : Nm} (ht : toks s = some [a, [58]]) (ha : labelP a = true) (hsm : a.length ≤ 1000000) {D : Nat} (hp : PsAt w D P Wm M st vo vj) {k : Nat} (hn : hasM st.marks a = some k) : Calls Tryz.prog 27 #[.pointer (some ⟨P, 0, none⟩), .string ⟨s.toArray⟩, .int .i64 n] w fun x w' => x = Thrown 121 n ∧ Below w.heap.size w w' := by
  have hS := split_any s hs n w hv hB
  rw [ht] at hS
  obtain ⟨Ao, mo, co, hvo⟩ : ∃ Ao mo co, vo = .slice Ao mo co := by
    rcases hp.out.2 with ⟨h1, h2⟩ | ⟨g, cap, cur, h1, -⟩
    · exact ⟨_, _, _, h1⟩
    · exact ⟨_, _, _, h1⟩
  have hS' : Calls _ _ _ _ fun x w' => ∃ N c A, x = .returned (.pointer (some ⟨N, 0, none⟩)) ∧ w'.cell? ⟨N, 0, none⟩ = some (.slice A 2 c) ∧ (Hid (Below w.heap.size w w') ∧ Hid (Calls Tryz.prog 67 #[.pointer (some ⟨P, 0, none⟩), .pointer (some ⟨N, 0, none⟩)] w' fun x w'' => x = Thrown 121 n ∧ Hid (Below w'.heap.size w' w''))) := hS.mono fun x w' ⟨N, h1, h2, h3, h4⟩ => by
    obtain ⟨A, c, hb, hr⟩ := h2.row
    have hp' := hp.below h4
    refine ⟨N, c, A, h1, hb.cell 0, Lib.hid h4, Lib.hid ?_⟩
    subst hvo
    have := mark_twice (v := .int .i64 (k : Nat)) h2 hsm ha hp'.bk hp'.marks (by simp [hn])
    exact this.mono fun y w2 ⟨e1, e2⟩ => ⟨e1, Lib.hid e2⟩
  clear ht hS hp hn hvo
  go_enter Tryz.func27, Tryz.ntmps27
  go_wp2_with fail
  (with_reducible refine hS'.mono ?_)
  rintro _ w1 ⟨N, c, A, rfl, c0, b1, hk⟩
  clear hS'
  go_wp2_with fail
  (with_reducible refine hk.out.mono ?_)
  rintro _ w2 ⟨rfl, b2⟩
  exact ⟨rfl, rfl, b1.out.trans (b2.out.mono b1.out.size)⟩
end Go.Proofs.YtjebjninlejoeaaGreatDoor

