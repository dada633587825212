/- text, the walk: ins.Right tells rightP. -/
import Derived.Test.YtjebjninlejoeaaGreatDoorX7
import Derived.Test.YtjebjninlejoeaaGreatDoorX8
import Derived.Test.YtjebjninlejoeaaGreatDoorX9
import Derived.Test.YtjebjninlejoeaaGreatDoorX10
import Derived.Test.YtjebjninlejoeaaGreatDoorX11
namespace Go.Proofs.YtjebjninlejoeaaGreatDoor
open Go.RowKit Go.Maps Go.ChangeMaps
set_option linter.unusedVariables false

theorem right_any (i : IV) (w : World) : Calls Tryz.prog 16 #[.agg (ivV i).toArray] w fun e w' => e = .returned (.bool (rightP i)) ∧ Below w.heap.size w w' := by
  obtain ⟨op, nr, d, s, u, o, m, z⟩ := i
  show Calls Tryz.prog 16 #[.agg #[.int .u8 op, .bool nr, .int .i64 d, .int .i64 s, .bool u, .int .i64 o, .int .i64 m, .int .i64 z]] w _
  cases u
  · by_cases h1 : 1 ≤ op ∧ op ≤ 12
    · exact right_alu op nr d s o m z h1 w
    by_cases h2 : op = 13
    · exact right_neg op nr d s o m z h2 w
    by_cases h3 : op = 14
    · exact right_load op nr d s o m z h3 w
    by_cases h4 : op = 15
    · exact right_put op nr d s o m z h4 w
    by_cases h5 : op = 16
    · exact right_jump op nr d s o m z h5 w
    by_cases h6 : 17 ≤ op ∧ op ≤ 27
    · exact right_ask op nr d s o m z h6 w
    by_cases h7 : op = 28
    · exact right_exit op nr d s o m z h7 w
    exact right_no op nr d s o m z (by omega) w
  · by_cases h1 : 1 ≤ op ∧ op ≤ 12
    · exact right_aluI op nr d s o m z h1 w
    by_cases h2 : op = 13
    · exact right_negI op nr d s o m z h2 w
    by_cases h3 : op = 14
    · exact right_loadI op nr d s o m z h3 w
    by_cases h4 : op = 15
    · exact right_putI op nr d s o m z h4 w
    by_cases h5 : op = 16
    · exact right_jumpI op nr d s o m z h5 w
    by_cases h6 : 17 ≤ op ∧ op ≤ 27
    · exact right_askI op nr d s o m z h6 w
    by_cases h7 : op = 28
    · exact right_exitI op nr d s o m z h7 w
    exact right_noI op nr d s o m z (by omega) w
end Go.Proofs.YtjebjninlejoeaaGreatDoor

