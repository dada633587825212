/- Links as keys. -/
import Derived.Test.YtenkhbiikecegaaMap
namespace Go.Proofs.Ytenkhbiikecegaa
open Go.RowKit Go.Maps Go.ChangeMaps
set_option linter.unusedVariables false
set_option maxRecDepth 100000

def I64 (a : Int) : Prop := -9223372036854775808 ≤ a ∧ a ≤ 9223372036854775807
def linkV (a b : Int) : Value := .agg #[.int .i64 a, .int .i64 b]
theorem linkV_inj {a b c d : Int} (h : linkV a b = linkV c d) : a = c ∧ b = d := by
  simp [linkV] at h; exact h
theorem nLaidOut : laidOutB Try.prog = true := by kernel_rfl
theorem linkLaw : Keyed Try.prog 48 := Keyed.of_law (deep_law_laid nLaidOut (m := 3) (by decide) (of_decide_eq_true (by kernel_rfl)) (by kernel_rfl) (by kernel_rfl))
theorem linkKey (a b : Int) (ha : I64 a) (hb : I64 b) : ∃ l, keyOf Try.prog 48 (linkV a b) = some l := by
  have h1 : Try.prog.keyType 48 = true := by kernel_rfl
  have h2 : (linkV a b).formed Try.prog 48 = true := by
    have hc : Try.prog.cellsOf 48 = 2 := by kernel_rfl
    simp [Value.formed, linkV, Try.underlying48, hc]
  have h3 : ∃ ls, Try.prog.keyLits (Try.prog.types.size + 1) 48 (linkV a b).cells.toList = some ls := by
    have hc : Try.prog.cellsOf 48 = 2 := by kernel_rfl
    have hc3 : Try.prog.cellsOf 3 = 1 := by kernel_rfl
    have hs : 0 < Try.prog.types.size := of_decide_eq_true (by kernel_rfl)
    obtain ⟨d, hd⟩ : ∃ d, Try.prog.types.size = d + 1 := ⟨Try.prog.types.size - 1, by omega⟩
    have wa : (Lit.int .i64 a).wf = true := WalkArith.wf_i64 ha
    have wb : (Lit.int .i64 b).wf = true := WalkArith.wf_i64 hb
    rw [hd]
    simp [Program.keyLits, linkV, Value.cells, Try.underlying48, Try.underlying3, hc, hc3, wa, wb, List.range_succ]
  obtain ⟨ls, h3⟩ := h3
  unfold keyOf
  rw [Try.underlying48]
  simp only [h1, h2, h3, Bool.and_self, if_true, Option.map_some]
  exact ⟨_, rfl⟩
theorem zeroRow (w : World) : (zeroValue 54).run Try.prog w = .ok (.slice none 0 0) w := by kernel_rfl
theorem mapTy : Try.prog.underlying 23 = some (.map 48 54) := Try.underlying23
end Go.Proofs.Ytenkhbiikecegaa
