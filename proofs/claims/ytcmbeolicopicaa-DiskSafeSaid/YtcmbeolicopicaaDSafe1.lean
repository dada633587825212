/- disk: DiskSafe's state through a step, in plain terms. -/
import Derived.Test.YtcmbeolicopicaaDSafe0
namespace Go.Proofs.Ytcmbeolicopicaa
open Go.RowKit Go.Maps Go.ChangeMaps
set_option linter.unusedVariables false
set_option linter.unusedSectionVars false
set_option linter.unusedSimpArgs false
set_option maxRecDepth 100000

theorem fd_putF {L : List FE} (h : Srt L) (g : FE) (t : Nm) : fd (putF L g) t = if t = g.s then some g else fd L t := by
  have hd := (srt_putF h g).dis
  by_cases ht : t = g.s
  · rw [if_pos ht, ht]
    exact fd_mem hd (mem_putF.2 (.inl rfl))
  · rw [if_neg ht]
    cases e : fd L t with
    | none =>
      refine fd_not fun f hf => ?_
      rcases mem_putF.1 hf with rfl | ⟨hf, _⟩
      · exact fun q => ht q.symm
      · exact fd_none e f hf
    | some f =>
      obtain ⟨hf, rfl⟩ := fd_some e
      exact fd_mem hd (mem_putF.2 (.inr ⟨hf, ht⟩))
theorem fd_cr (L : List FE) (keep : Int) (t : Nm) : fd (L.map (crF keep)) t = (fd L t).map (crF keep) := by
  unfold fd
  rw [List.find?_map]
  rfl
end Go.Proofs.Ytcmbeolicopicaa

