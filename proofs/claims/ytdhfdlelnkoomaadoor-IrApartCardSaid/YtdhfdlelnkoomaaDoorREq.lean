/- Two instructions compared: over this seat's program. -/
import Derived.Test.YtdhfdlelnkoomaaDoorRPlace
import Derived.Laws.StructEq
import Derived.RegionTactic
import Derived.ChangeAlike
namespace Go.Proofs.YtdhfdlelnkoomaaDoor
open Go.RowKit
set_option linter.unusedVariables false
set_option maxRecDepth 100000

/-- Are two instructions the same? -/
def insE (x y : Ins) : Bool := decide (x = y)
theorem eql_ins (a1 a2 : Int) (a3 : Bool) (a4 a5 a6 a7 a8 a9 b1 b2 : Int) (b3 : Bool) (b4 b5 b6 b7 b8 b9 : Int) (w : World) :
    (binOp .eql 35 (.agg #[.int .u8 a1, .int .u8 a2, .bool a3, .int .i64 a4, .int .i64 a5, .int .i64 a6, .int .u64 a7, .int .i64 a8, .int .i64 a9]) (.agg #[.int .u8 b1, .int .u8 b2, .bool b3, .int .i64 b4, .int .i64 b5, .int .i64 b6, .int .u64 b7, .int .i64 b8, .int .i64 b9])).run Tryd.prog w = .ok (.bool (insE ⟨a1, a2, a3, a4, a5, a6, a7, a8, a9⟩ ⟨b1, b2, b3, b4, b5, b6, b7, b8, b9⟩)) w := by
  have he : insE ⟨a1, a2, a3, a4, a5, a6, a7, a8, a9⟩ ⟨b1, b2, b3, b4, b5, b6, b7, b8, b9⟩ = ((a1 == b1) && ((a2 == b2) && ((a3 == b3) && ((a4 == b4) && ((a5 == b5) && ((a6 == b6) && ((a7 == b7) && ((a8 == b8) && (a9 == b9))))))))) := by
    unfold insE
    rw [Bool.eq_iff_iff]
    simp
  rw [he]
  rw [run_eql_struct]
  have h1 : Tryd.prog.underlying 35 = some (.struct (Tryd.prog.fieldsOf 35)) := by kernel_rfl
  have h2 : Tryd.prog.stoodInHeld 35 = false := by kernel_rfl
  rw [run_equalIn_struct w 9999 35 _ _ h1 h2]
  simp [go_sem, Program.fieldsOf, Op.eqFields]
  repeat' split
  all_goals simp_all
theorem insE_t {x y : Ins} (h : x = y) : insE x y = true := decide_eq_true h
theorem insE_f {x y : Ins} (h : x ≠ y) : insE x y = false := decide_eq_false h
end Go.Proofs.YtdhfdlelnkoomaaDoor
