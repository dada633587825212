/- text, the walk: a line that is no mark's. -/
import Derived.Test.YtjebjninlejoeaaGreatDoorX27
namespace Go.Proofs.YtjebjninlejoeaaGreatDoor
open Go.RowKit Go.Maps Go.ChangeMaps
set_option linter.unusedVariables false
set_option linter.unusedSimpArgs false
set_option linter.unusedSectionVars false
set_option maxRecDepth 100000

theorem mark_false {w : World} {N P : Nat} {K : Nat → Prop} {t : List Nm} {n : Int} (h : RowAt w N K t n) (hm : markT t = none) : Calls Tryz.prog 67 #[.pointer (some ⟨P, 0, none⟩), .pointer (some ⟨N, 0, none⟩)] w fun x w' => x = .returned (.bool false) ∧ w' = w := by
  by_cases hl : t.length = 2
  · obtain ⟨a, b, rfl⟩ : ∃ a b, t = [a, b] := by
      match t, hl with
      | [a, b], _ => exact ⟨a, b, rfl⟩
    exact mark_no h P hm
  · exact mark_len h P hl
/-- A row that is not empty and no mark: its first cell, and what mark and take tell. -/
theorem split_word (s : Nm) (hs : s.length ≤ 1000000) (n : Int) (P : Nat) {B : Nat} (w : World) (hv : Tv B w) (hB : B ≤ w.heap.size) {s0 : Nm} {t : List Nm} (ht : toks s = some (s0 :: t)) (hm : markT (s0 :: t) = none) : Calls Tryz.prog 66 #[.string ⟨s.toArray⟩, .int .i64 n] w fun x w' => ∃ N c A, x = .returned (.pointer (some ⟨N, 0, none⟩)) ∧ w'.cell? ⟨N, 0, none⟩ = some (.slice A (t.length + 1) c) ∧ (Hid (Below w.heap.size w w') ∧ Hid (w.heap.size ≤ N) ∧ Hid (RowAt w' N (fun b => N < b) (s0 :: t) n) ∧ Hid (Calls Tryz.prog 67 #[.pointer (some ⟨P, 0, none⟩), .pointer (some ⟨N, 0, none⟩)] w' fun x w'' => x = .returned (.bool false) ∧ w'' = w')) := by
  have hS := split_any s hs n w hv hB
  rw [ht] at hS
  exact hS.mono fun x w' ⟨N, h1, h2, h3, h4⟩ => by
    obtain ⟨A, c, hb, hr⟩ := h2.row
    exact ⟨N, c, A, h1, hb.cell 0, Lib.hid h4, Lib.hid h3, Lib.hid h2, Lib.hid (mark_false h2 hm)⟩
end Go.Proofs.YtjebjninlejoeaaGreatDoor

