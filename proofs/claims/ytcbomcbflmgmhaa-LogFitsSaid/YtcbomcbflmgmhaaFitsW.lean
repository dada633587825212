/- LogFits: its cases joined. -/
import Derived.Test.YtcbomcbflmgmhaaFitsN
import Derived.Test.YtcbomcbflmgmhaaFitsZ
import Derived.Test.YtcbomcbflmgmhaaFitsP
namespace Go.Proofs.Ytcbomcbflmgmhaa
open Go.RowKit
set_option linter.unusedVariables false

theorem LogFits_walk (A1 A2 : Option Addr) (c1 c2 : Nat) (es ns : List En) (i t : Int) (w : World) (h1 : Ents w (fun b => b < w.heap.size) A1 c1 es) (h2 : Ents w (fun b => b < w.heap.size) A2 c2 ns) :
    Calls Try.prog 3 #[.slice A1 es.length c1, .int .i64 i, .int .i64 t, .slice A2 ns.length c2] w fun x w' => x = .returned (.bool true) ∧ Below w.heap.size w w' := by
  by_cases hok : hasAt es i = true ∧ termAt es i = t
  · by_cases hz : (fitR es ns i t).2.1 = 0
    · exact LogFits_zero A1 A2 c1 c2 es ns i t w h1 h2 (Lib.hid hok) (Lib.hid hz)
    · exact LogFits_pos A1 A2 c1 c2 es ns i t w h1 h2 (Lib.hid hok) (Lib.hid hz)
  · exact LogFits_no A1 A2 c1 c2 es ns i t w h1 h2 (Lib.hid hok)
end Go.Proofs.Ytcbomcbflmgmhaa
