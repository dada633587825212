/- Names as keys. -/
import Derived.Test.YtcmbeolicopicaaMap
import Derived.Sort.KeysCollected
namespace Go.Proofs.Ytcmbeolicopicaa
open Go.RowKit Go.Maps Go.ChangeMaps Go.Sort
set_option linter.unusedVariables false
set_option maxRecDepth 100000

def I64 (a : Int) : Prop := -9223372036854775808 ≤ a ∧ a ≤ 9223372036854775807
theorem nLaidOut : laidOutB Try.prog = true := by kernel_rfl
theorem strLaw : Keyed Try.prog 9 := string_keyed Try.underlying9
def nmV (s : List UInt8) : Value := .string ⟨s.toArray⟩
theorem nmV_inj {x y : List UInt8} (h : nmV x = nmV y) : x = y := by simpa [nmV] using h
theorem nmKey (s : List UInt8) (h : s.length ≤ maxLen) : ∃ l, keyOf Try.prog 9 (nmV s) = some l := by
  refine ⟨.string s, ?_⟩
  unfold nmV
  simp [keyOf, Try.underlying9, mapKey]
  exact h
theorem zeroPtr (w : World) : (zeroValue 56).run Try.prog w = .ok (.pointer none) w := by kernel_rfl
theorem mapTy : Try.prog.underlying 45 = some (.map 9 56) := Try.underlying45
end Go.Proofs.Ytcmbeolicopicaa
