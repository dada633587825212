/- Links as keys. -/
import Derived.Test.YtenkhbiikecegaaGreatMap
namespace Go.Proofs.YtenkhbiikecegaaGreat
open Go.RowKit Go.Maps Go.ChangeMaps
set_option linter.unusedVariables false
set_option maxRecDepth 100000

def I64 (a : Int) : Prop := -9223372036854775808 ≤ a ∧ a ≤ 9223372036854775807
def linkV (a b : Int) : Value := .agg #[.int .i64 a, .int .i64 b]
theorem linkV_inj {a b c d : Int} (h : linkV a b = linkV c d) : a = c ∧ b = d := by
  simp [linkV] at h; exact h
theorem nLaidOut : laidOutB Tryz.prog = true := by kernel_rfl
theorem linkLaw : Keyed Tryz.prog 58 := Keyed.of_law (deep_law_laid nLaidOut (m := 3) (by decide) (of_decide_eq_true (by kernel_rfl)) (by kernel_rfl) (by kernel_rfl))
theorem linkKey (a b : Int) (ha : I64 a) (hb : I64 b) : ∃ l, keyOf Tryz.prog 58 (linkV a b) = some l := by
  have h1 : Tryz.prog.keyType 58 = true := by kernel_rfl
  have h2 : (linkV a b).formed Tryz.prog 58 = true := by
    have hc : Tryz.prog.cellsOf 58 = 2 := by kernel_rfl
    simp [Value.formed, linkV, Tryz.underlying58, hc]
  have h3 : ∃ ls, Tryz.prog.keyLits (Tryz.prog.types.size + 1) 58 (linkV a b).cells.toList = some ls := by
    have hc : Tryz.prog.cellsOf 58 = 2 := by kernel_rfl
    have hc3 : Tryz.prog.cellsOf 3 = 1 := by kernel_rfl
    have hs : 0 < Tryz.prog.types.size := of_decide_eq_true (by kernel_rfl)
    obtain ⟨d, hd⟩ : ∃ d, Tryz.prog.types.size = d + 1 := ⟨Tryz.prog.types.size - 1, by omega⟩
    have wa : (Lit.int .i64 a).wf = true := WalkArith.wf_i64 ha
    have wb : (Lit.int .i64 b).wf = true := WalkArith.wf_i64 hb
    rw [hd]
    simp [Program.keyLits, linkV, Value.cells, Tryz.underlying58, Tryz.underlying3, hc, hc3, wa, wb, List.range_succ]
  obtain ⟨ls, h3⟩ := h3
  unfold keyOf
  rw [Tryz.underlying58]
  simp only [h1, h2, h3, Bool.and_self, if_true, Option.map_some]
  exact ⟨_, rfl⟩
theorem zeroRow (w : World) : (zeroValue 27).run Tryz.prog w = .ok (.slice none 0 0) w := by kernel_rfl
theorem mapTy : Tryz.prog.underlying 44 = some (.map 58 27) := Tryz.underlying44
end Go.Proofs.YtenkhbiikecegaaGreat
