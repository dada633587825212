/- disk: string(b). -/
import Derived.Test.YtcmbeolicopicaaDConv
import Derived.Laws.IdiomStrings
namespace Go.Proofs.Ytcmbeolicopicaa
open Go.RowKit Go.Maps Go.ChangeMaps
set_option linter.unusedVariables false
set_option linter.unusedSectionVars false
set_option linter.unusedSimpArgs false
set_option maxRecDepth 100000

theorem conv_text {W : World} {K : Nat → Prop} {A : Option Addr} {c : Nat} (u : Nm) (h : Rd W K A c (u8s (bI u))) : (convert 29 9 (.slice A u.length c)).run Try.prog W = .ok (.string ⟨u.toArray⟩) W := by
  cases A with
  | none =>
    have h1 := h.nonone rfl
    simp at h1
    obtain ⟨rfl, rfl⟩ := h1
    rw [run_convert_bytes_string W 29 9 5 none _ _ Try.underlying29 Try.underlying5 Try.underlying9]
    rfl
  | some a =>
    refine run_convert_bytes_back W 29 9 5 a c u Try.underlying29 Try.underlying5 Try.underlying9 fun j hj => ?_
    exact h.cells a rfl j _ (by simp [u8s, bI, hj])
end Go.Proofs.Ytcmbeolicopicaa

