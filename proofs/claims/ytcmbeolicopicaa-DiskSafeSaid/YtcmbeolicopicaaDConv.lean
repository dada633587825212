/- disk: texts out of bytes. -/
import Derived.Test.YtcmbeolicopicaaDHas
namespace Go.Proofs.Ytcmbeolicopicaa
open Go.RowKit Go.Maps Go.ChangeMaps
set_option linter.unusedVariables false
set_option linter.unusedSectionVars false
set_option linter.unusedSimpArgs false
set_option maxRecDepth 100000

/-- Numbers of bytes as a text. -/
def tB (l : List Int) : Nm := l.map fun x => x.toNat.toUInt8
theorem bI_tB {l : List Int} (h : ∀ x ∈ l, 0 ≤ x ∧ x < 256) : bI (tB l) = l := by
  unfold bI tB
  rw [List.map_map]
  conv => rhs; rw [← List.map_id l]
  refine List.map_congr_left fun x hx => ?_
  have := h x hx
  simp [Nat.toUInt8]
  omega
theorem tB_bI (u : Nm) : tB (bI u) = u := by
  unfold bI tB
  rw [List.map_map]
  conv => rhs; rw [← List.map_id u]
  refine List.map_congr_left fun x _ => ?_
  simp [Nat.toUInt8]
end Go.Proofs.Ytcmbeolicopicaa

