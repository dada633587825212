/-
  No cell of these rows narrows 'for every input' (looked for: loops, veiled, ifaces, maps, wideKeys, modest, calm, conditions, laid).
  DERIVED. THE GIVEN ROWS OF THIS SEAT. 5 by the template 'for every input the law returns true; each argument reads behind the call as it read before'; 0 by the template 'total and deterministic' (their statements: YtlfgddljmcgggaaTotals.lean).
  GIVEN WITH THE SEED: the statements are not yours to turn. If you find one false, say at which input.
  Laid BY PROGRAM, IN A SANDBOX (cutbox-rows.mjs): the forced cells as the released guide's own fill.sh prints them over the translation b2a8a0e2b10f6ea3… (all of the seat's roots in one cut). By AI agents, Wed Nov 11 2026. No macro, syntax, notation, axiom, sorry.
-/
import Derived.Test.YtlfgddljmcgggaaChecked
import GoSem.Claim
import GoSem.ClaimJoined
import GoSem.ClaimMapViews
import Derived.JoinedTies
import Derived.KernelRfl
namespace Go.Proofs.Ytlfgddljmcgggaa
/- THE CELL 'sum', in the pinned program and in every row, IS THE sha256 OF THE DUMP (.gsa) THAT YtlfgddljmcgggaaProg.lean LOADS. Nothing in Lean hashes anything: it is a label: what it is worth is what the hold of that sum in a sandbox is worth. -/
noncomputable def Try.pinned : Pinned := { name := "ytlfgddljmcgggaa", sum := "b2a8a0e2b10f6ea34fb027064b1aee7cc38727a93eeba24e672e364b8b6393e1", checked := Try.checked }
namespace Rows
def none {H : Type} : Left H := { results := [], args := [] }

/-- 'barbicanlaw01.AluDoes': WHATEVER THE INPUT: true; the input reads as it did. -/
def aluDoesSpec : ChangeSpec := { name := "aluDoes", fn := fun _ => fun
  | [d1, d2, d3, d4, d5] => { results := [.lit (.bool true)], args := [d1, d2, d3, d4, d5] }
  | _ => none }
def aluDoesRow : OpenClaim := { program := "ytlfgddljmcgggaa", sum := "b2a8a0e2b10f6ea34fb027064b1aee7cc38727a93eeba24e672e364b8b6393e1", func := "barbican/barbicanlaw01.AluDoes", spec := "aluDoes", unfollowed := true, recurses := true, apart := false }
def AluDoesSaid : Prop := aluDoesRow.holds Try.pinned (OpenSpec.ofChange aluDoesSpec)

/-- ITS FALSE NEIGHBOUR: 'it returns false'. Refute it at one input. -/
def aluDoesWrong : ChangeSpec := { name := "aluDoes", fn := fun _ => fun
  | [d1, d2, d3, d4, d5] => { results := [.lit (.bool false)], args := [d1, d2, d3, d4, d5] }
  | _ => none }
def AluDoesWrongFalsely : Prop := aluDoesRow.holds Try.pinned (OpenSpec.ofChange aluDoesWrong)

/-- 'barbicanlaw01.AluEdges': WHATEVER THE INPUT: true; the input reads as it did. -/
def aluEdgesSpec : ChangeSpec := { name := "aluEdges", fn := fun _ => fun
  | [] => { results := [.lit (.bool true)], args := [] }
  | _ => none }
def aluEdgesRow : OpenClaim := { program := "ytlfgddljmcgggaa", sum := "b2a8a0e2b10f6ea34fb027064b1aee7cc38727a93eeba24e672e364b8b6393e1", func := "barbican/barbicanlaw01.AluEdges", spec := "aluEdges", unfollowed := true, recurses := true, apart := false }
def AluEdgesSaid : Prop := aluEdgesRow.holds Try.pinned (OpenSpec.ofChange aluEdgesSpec)

/-- ITS FALSE NEIGHBOUR: 'it returns false'. Refute it at one input. -/
def aluEdgesWrong : ChangeSpec := { name := "aluEdges", fn := fun _ => fun
  | [] => { results := [.lit (.bool false)], args := [] }
  | _ => none }
def AluEdgesWrongFalsely : Prop := aluEdgesRow.holds Try.pinned (OpenSpec.ofChange aluEdgesWrong)

/-- 'barbicanlaw01.AluSame': WHATEVER THE INPUT: true; the input reads as it did. -/
def aluSameSpec : ChangeSpec := { name := "aluSame", fn := fun _ => fun
  | [d1, d2, d3] => { results := [.lit (.bool true)], args := [d1, d2, d3] }
  | _ => none }
def aluSameRow : OpenClaim := { program := "ytlfgddljmcgggaa", sum := "b2a8a0e2b10f6ea34fb027064b1aee7cc38727a93eeba24e672e364b8b6393e1", func := "barbican/barbicanlaw01.AluSame", spec := "aluSame", unfollowed := true, recurses := true, apart := false }
def AluSameSaid : Prop := aluSameRow.holds Try.pinned (OpenSpec.ofChange aluSameSpec)

/-- ITS FALSE NEIGHBOUR: 'it returns false'. Refute it at one input. -/
def aluSameWrong : ChangeSpec := { name := "aluSame", fn := fun _ => fun
  | [d1, d2, d3] => { results := [.lit (.bool false)], args := [d1, d2, d3] }
  | _ => none }
def AluSameWrongFalsely : Prop := aluSameRow.holds Try.pinned (OpenSpec.ofChange aluSameWrong)

/-- 'barbicanlaw01.AluParts': WHATEVER THE INPUT: true; the input reads as it did. -/
def aluPartsSpec : ChangeSpec := { name := "aluParts", fn := fun _ => fun
  | [d1, d2, d3] => { results := [.lit (.bool true)], args := [d1, d2, d3] }
  | _ => none }
def aluPartsRow : OpenClaim := { program := "ytlfgddljmcgggaa", sum := "b2a8a0e2b10f6ea34fb027064b1aee7cc38727a93eeba24e672e364b8b6393e1", func := "barbican/barbicanlaw01.AluParts", spec := "aluParts", unfollowed := true, recurses := true, apart := false }
def AluPartsSaid : Prop := aluPartsRow.holds Try.pinned (OpenSpec.ofChange aluPartsSpec)

/-- ITS FALSE NEIGHBOUR: 'it returns false'. Refute it at one input. -/
def aluPartsWrong : ChangeSpec := { name := "aluParts", fn := fun _ => fun
  | [d1, d2, d3] => { results := [.lit (.bool false)], args := [d1, d2, d3] }
  | _ => none }
def AluPartsWrongFalsely : Prop := aluPartsRow.holds Try.pinned (OpenSpec.ofChange aluPartsWrong)

/-- 'barbicanlaw01.AluNarrow': WHATEVER THE INPUT: true; the input reads as it did. -/
def aluNarrowSpec : ChangeSpec := { name := "aluNarrow", fn := fun _ => fun
  | [d1, d2, d3, d4] => { results := [.lit (.bool true)], args := [d1, d2, d3, d4] }
  | _ => none }
def aluNarrowRow : OpenClaim := { program := "ytlfgddljmcgggaa", sum := "b2a8a0e2b10f6ea34fb027064b1aee7cc38727a93eeba24e672e364b8b6393e1", func := "barbican/barbicanlaw01.AluNarrow", spec := "aluNarrow", unfollowed := true, recurses := true, apart := false }
def AluNarrowSaid : Prop := aluNarrowRow.holds Try.pinned (OpenSpec.ofChange aluNarrowSpec)

/-- ITS FALSE NEIGHBOUR: 'it returns false'. Refute it at one input. -/
def aluNarrowWrong : ChangeSpec := { name := "aluNarrow", fn := fun _ => fun
  | [d1, d2, d3, d4] => { results := [.lit (.bool false)], args := [d1, d2, d3, d4] }
  | _ => none }
def AluNarrowWrongFalsely : Prop := aluNarrowRow.holds Try.pinned (OpenSpec.ofChange aluNarrowWrong)

/- THE SECOND FORM. 'bulk': how many values and letters a reading holds, each counted each time it is reached (what is shared counts as often as it is met; a slice's spare places count too). A statement '..UptoSaid' is the law's where the arguments, and the package variables that the reading takes, are together of bulk at most 1048576: NARROWER than '..Said'. Prove '..Said' where nothing that the law and all that it calls make is longer than what came in: it says more and counts as full. Else prove '..UptoSaid'. A law counts once. -/
mutual
def uptoBulk {H : Type} : DataW H → Nat
  | .lit (.string bytes) => bytes.length + 1
  | .lit _ => 1
  | .nil => 1
  | .ptr d => uptoBulk d + 1
  | .slice elems spare => uptoBulkAll elems + uptoBulkAll spare + 1
  | .agg parts => uptoBulkAll parts + 1
  | .iface _ d => uptoBulk d + 1
  | .map entries => uptoBulkEntries entries + 1
  | .held _ => 1
def uptoBulkAll {H : Type} : List (DataW H) → Nat
  | [] => 0
  | d :: r => uptoBulk d + uptoBulkAll r
def uptoBulkEntries {H : Type} : List (Lit × DataW H) → Nat
  | [] => 0
  | x :: r => uptoBulkEntry x + uptoBulkEntries r
def uptoBulkEntry {H : Type} : Lit × DataW H → Nat
  | (.string bytes, d) => bytes.length + uptoBulk d + 1
  | (_, d) => uptoBulk d + 1
 end
def uptoSmall : (H : Type) → List (DataW H) → Bool := fun _ ds => decide (uptoBulkAll ds ≤ 1048576)
def OpenSpec.upto (s : _root_.Go.ChangeSpec) : _root_.Go.OpenSpec := { _root_.Go.OpenSpec.ofChange s with cond := some uptoSmall }

/-- 'barbicanlaw01.AluDoes', WHERE WHAT IT READS IS OF BULK AT MOST 1048576: true; the input reads as it did. -/
def aluDoesUptoRow : OpenClaim := { program := "ytlfgddljmcgggaa", sum := "b2a8a0e2b10f6ea34fb027064b1aee7cc38727a93eeba24e672e364b8b6393e1", func := "barbican/barbicanlaw01.AluDoes", spec := "aluDoes", unfollowed := true, recurses := true, apart := false, narrowed := true }
def AluDoesUptoSaid : Prop := aluDoesUptoRow.holds Try.pinned (OpenSpec.upto aluDoesSpec)

/-- 'barbicanlaw01.AluEdges', WHERE WHAT IT READS IS OF BULK AT MOST 1048576: true; the input reads as it did. -/
def aluEdgesUptoRow : OpenClaim := { program := "ytlfgddljmcgggaa", sum := "b2a8a0e2b10f6ea34fb027064b1aee7cc38727a93eeba24e672e364b8b6393e1", func := "barbican/barbicanlaw01.AluEdges", spec := "aluEdges", unfollowed := true, recurses := true, apart := false, narrowed := true }
def AluEdgesUptoSaid : Prop := aluEdgesUptoRow.holds Try.pinned (OpenSpec.upto aluEdgesSpec)

/-- 'barbicanlaw01.AluSame', WHERE WHAT IT READS IS OF BULK AT MOST 1048576: true; the input reads as it did. -/
def aluSameUptoRow : OpenClaim := { program := "ytlfgddljmcgggaa", sum := "b2a8a0e2b10f6ea34fb027064b1aee7cc38727a93eeba24e672e364b8b6393e1", func := "barbican/barbicanlaw01.AluSame", spec := "aluSame", unfollowed := true, recurses := true, apart := false, narrowed := true }
def AluSameUptoSaid : Prop := aluSameUptoRow.holds Try.pinned (OpenSpec.upto aluSameSpec)

/-- 'barbicanlaw01.AluParts', WHERE WHAT IT READS IS OF BULK AT MOST 1048576: true; the input reads as it did. -/
def aluPartsUptoRow : OpenClaim := { program := "ytlfgddljmcgggaa", sum := "b2a8a0e2b10f6ea34fb027064b1aee7cc38727a93eeba24e672e364b8b6393e1", func := "barbican/barbicanlaw01.AluParts", spec := "aluParts", unfollowed := true, recurses := true, apart := false, narrowed := true }
def AluPartsUptoSaid : Prop := aluPartsUptoRow.holds Try.pinned (OpenSpec.upto aluPartsSpec)

/-- 'barbicanlaw01.AluNarrow', WHERE WHAT IT READS IS OF BULK AT MOST 1048576: true; the input reads as it did. -/
def aluNarrowUptoRow : OpenClaim := { program := "ytlfgddljmcgggaa", sum := "b2a8a0e2b10f6ea34fb027064b1aee7cc38727a93eeba24e672e364b8b6393e1", func := "barbican/barbicanlaw01.AluNarrow", spec := "aluNarrow", unfollowed := true, recurses := true, apart := false, narrowed := true }
def AluNarrowUptoSaid : Prop := aluNarrowUptoRow.holds Try.pinned (OpenSpec.upto aluNarrowSpec)

end Rows
end Go.Proofs.Ytlfgddljmcgggaa
