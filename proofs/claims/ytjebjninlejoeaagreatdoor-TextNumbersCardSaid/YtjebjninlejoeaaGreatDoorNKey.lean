/- Names as keys. -/
import Derived.Test.YtjebjninlejoeaaGreatDoorMap
import Derived.Sort.KeysCollected
namespace Go.Proofs.YtjebjninlejoeaaGreatDoor
open Go.RowKit Go.Maps Go.ChangeMaps Go.Sort
set_option linter.unusedVariables false
set_option maxRecDepth 100000

def I64 (a : Int) : Prop := -9223372036854775808 ≤ a ∧ a ≤ 9223372036854775807
theorem nLaidOut : laidOutB Tryz.prog = true := by kernel_rfl
theorem strLaw : Keyed Tryz.prog 9 := string_keyed Tryz.underlying9
def nmV (s : List UInt8) : Value := .string ⟨s.toArray⟩
theorem nmV_inj {x y : List UInt8} (h : nmV x = nmV y) : x = y := by simpa [nmV] using h
theorem nmKey (s : List UInt8) (h : s.length ≤ maxLen) : ∃ l, keyOf Tryz.prog 9 (nmV s) = some l := by
  refine ⟨.string s, ?_⟩
  unfold nmV
  simp [keyOf, Tryz.underlying9, mapKey]
  exact h
end Go.Proofs.YtjebjninlejoeaaGreatDoor
