/-
  No cell of these rows narrows 'for every input' (looked for: loops, veiled, ifaces, maps, wideKeys, modest, calm, conditions, laid).
  DERIVED. THE GIVEN ROWS OF THIS SEAT. 2 by the template 'for every input the law returns true; each argument reads behind the call as it read before'; 0 by the template 'total and deterministic' (their statements: YtenkhbiikecegaaGreatTotals.lean).
  GIVEN WITH THE SEED: the statements are not yours to turn. If you find one false, say at which input.
  Laid BY PROGRAM, IN A SANDBOX (cutbox-rows.mjs): the forced cells as the released guide's own fill.sh prints them over the translation 60c80cca745f8005… (all of the seat's roots in one cut). By AI agents, Wed Nov 11 2026. No macro, syntax, notation, axiom, sorry.
-/
import Derived.Test.YtenkhbiikecegaaGreatChecked
import GoSem.Claim
import GoSem.ClaimJoined
import GoSem.ClaimMapViews
import Derived.JoinedTies
import Derived.KernelRfl
namespace Go.Proofs.YtenkhbiikecegaaGreat
/- THE CELL 'sum', in the pinned program and in every row, IS THE sha256 OF THE DUMP (.gsa) THAT YtenkhbiikecegaaGreatProg.lean LOADS. Nothing in Lean hashes anything: it is a label: what it is worth is what the hold of that sum in a sandbox is worth. -/
noncomputable def Tryz.pinned : Pinned := { name := "ytenkhbiikecegaagreat", sum := "60c80cca745f8005834c03663308fd7dc19b539f338432e2ea934c1f2e89591e", checked := Tryz.checked }
namespace Rows
def none {H : Type} : Left H := { results := [], args := [] }

/-- 'barbicanlaw23.NetLives': WHATEVER THE INPUT: true; the input reads as it did. -/
def netLivesSpec : ChangeSpec := { name := "netLives", fn := fun _ => fun
  | [d] => { results := [.lit (.bool true)], args := [d] }
  | _ => none }
def netLivesRow : OpenClaim := { program := "ytenkhbiikecegaagreat", sum := "60c80cca745f8005834c03663308fd7dc19b539f338432e2ea934c1f2e89591e", func := "barbican/barbicanlaw23.NetLives", spec := "netLives", unfollowed := true, recurses := true, plainKeys := false, apart := false }
def NetLivesSaid : Prop := netLivesRow.holds Tryz.pinned (OpenSpec.ofChange netLivesSpec)

/-- ITS FALSE NEIGHBOUR: 'it returns false'. Refute it at one input. -/
def netLivesWrong : ChangeSpec := { name := "netLives", fn := fun _ => fun
  | [d] => { results := [.lit (.bool false)], args := [d] }
  | _ => none }
def NetLivesWrongFalsely : Prop := netLivesRow.holds Tryz.pinned (OpenSpec.ofChange netLivesWrong)

/-- 'barbicanlaw23.NetNumbers': WHATEVER THE INPUT: true; the input reads as it did. -/
def netNumbersSpec : ChangeSpec := { name := "netNumbers", fn := fun _ => fun
  | [] => { results := [.lit (.bool true)], args := [] }
  | _ => none }
def netNumbersRow : OpenClaim := { program := "ytenkhbiikecegaagreat", sum := "60c80cca745f8005834c03663308fd7dc19b539f338432e2ea934c1f2e89591e", func := "barbican/barbicanlaw23.NetNumbers", spec := "netNumbers", unfollowed := true, recurses := true, plainKeys := false, apart := false }
def NetNumbersSaid : Prop := netNumbersRow.holds Tryz.pinned (OpenSpec.ofChange netNumbersSpec)

/-- ITS FALSE NEIGHBOUR: 'it returns false'. Refute it at one input. -/
def netNumbersWrong : ChangeSpec := { name := "netNumbers", fn := fun _ => fun
  | [] => { results := [.lit (.bool false)], args := [] }
  | _ => none }
def NetNumbersWrongFalsely : Prop := netNumbersRow.holds Tryz.pinned (OpenSpec.ofChange netNumbersWrong)

/- THE SECOND FORM. 'bulk': how many values and letters a reading holds, each counted each time it is reached (what is shared counts as often as it is met; a slice's spare places count too). A statement '..UptoSaid' is the law's where the arguments, and the package variables that the reading takes, are together of bulk at most 1048576: NARROWER than '..Said'. Prove '..Said' where nothing that the law and all that it calls make is longer than what came in: it says more and counts as full. Else prove '..UptoSaid'. A law counts once. -/
mutual
def uptoBulk {H : Type} : DataW H → Nat
  | .lit (.string bytes) => bytes.length + 1
  | .lit _ => 1
  | .nil => 1
  | .ptr d => uptoBulk d + 1
  | .slice elems spare => uptoBulkAll elems + uptoBulkAll spare + 1
  | .agg parts => uptoBulkAll parts + 1
  | .iface _ d => uptoBulk d + 1
  | .map entries => uptoBulkEntries entries + 1
  | .held _ => 1
def uptoBulkAll {H : Type} : List (DataW H) → Nat
  | [] => 0
  | d :: r => uptoBulk d + uptoBulkAll r
def uptoBulkEntries {H : Type} : List (Lit × DataW H) → Nat
  | [] => 0
  | x :: r => uptoBulkEntry x + uptoBulkEntries r
def uptoBulkEntry {H : Type} : Lit × DataW H → Nat
  | (.string bytes, d) => bytes.length + uptoBulk d + 1
  | (_, d) => uptoBulk d + 1
 end
def uptoSmall : (H : Type) → List (DataW H) → Bool := fun _ ds => decide (uptoBulkAll ds ≤ 1048576)
def OpenSpec.upto (s : _root_.Go.ChangeSpec) : _root_.Go.OpenSpec := { _root_.Go.OpenSpec.ofChange s with cond := some uptoSmall }

/-- 'barbicanlaw23.NetLives', WHERE WHAT IT READS IS OF BULK AT MOST 1048576: true; the input reads as it did. -/
def netLivesUptoRow : OpenClaim := { program := "ytenkhbiikecegaagreat", sum := "60c80cca745f8005834c03663308fd7dc19b539f338432e2ea934c1f2e89591e", func := "barbican/barbicanlaw23.NetLives", spec := "netLives", unfollowed := true, recurses := true, plainKeys := false, apart := false, narrowed := true }
def NetLivesUptoSaid : Prop := netLivesUptoRow.holds Tryz.pinned (OpenSpec.upto netLivesSpec)

/-- 'barbicanlaw23.NetNumbers', WHERE WHAT IT READS IS OF BULK AT MOST 1048576: true; the input reads as it did. -/
def netNumbersUptoRow : OpenClaim := { program := "ytenkhbiikecegaagreat", sum := "60c80cca745f8005834c03663308fd7dc19b539f338432e2ea934c1f2e89591e", func := "barbican/barbicanlaw23.NetNumbers", spec := "netNumbers", unfollowed := true, recurses := true, plainKeys := false, apart := false, narrowed := true }
def NetNumbersUptoSaid : Prop := netNumbersUptoRow.holds Tryz.pinned (OpenSpec.upto netNumbersSpec)

end Rows
end Go.Proofs.YtenkhbiikecegaaGreat
