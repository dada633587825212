/- disk: DiskSafe's state, in plain terms. -/
import Derived.Test.YtcmbeolicopicaaDBo
namespace Go.Proofs.Ytcmbeolicopicaa
open Go.RowKit Go.Maps Go.ChangeMaps
set_option linter.unusedVariables false
set_option linter.unusedSectionVars false
set_option linter.unusedSimpArgs false
set_option maxRecDepth 100000

/-- The files L, the names ns in the order of their coming, the maps all and safe. -/
structure Sf (L : List FE) (ns : List Nm) (AL SL : List (Nm × Value)) : Prop where
  srt : Srt L
  nd : ns.Nodup
  mem : ∀ s, s ∈ ns ↔ (fd L s).isSome
  rng : ∀ f ∈ L, ∀ x ∈ f.l, 0 ≤ x ∧ x < 256
  al : ∀ s, mpF AL s = (fd L s).map fun f => (s, nmV (tB f.l))
  sl : ∀ s, ((mpF SL s).map Prod.snd).getD (.int .i64 0) = .int .i64 (((fd L s).map FE.n).getD 0)
  nl : ∀ f ∈ L, f.n ≤ f.l.length
theorem Sf.start : Sf [] [] [] [] := ⟨List.Pairwise.nil, List.nodup_nil, fun s => by simp [fd], fun _ h => (by cases h), fun _ => rfl, fun _ => rfl, fun _ h => (by cases h)⟩
end Go.Proofs.Ytcmbeolicopicaa

