/- text, the walk: is an instruction right? -/
import Derived.Test.YtjebjninlejoeaaGreatDoorX5
import Derived.Laws.StructEq
import Derived.RegionTactic
import Derived.ChangeAlike
namespace Go.Proofs.YtjebjninlejoeaaGreatDoor
open Go.RowKit Go.Maps Go.ChangeMaps
set_option linter.unusedVariables false
set_option linter.unusedSimpArgs false
set_option linter.unusedSectionVars false
set_option maxRecDepth 100000

theorem eql_iv (a1 : Int) (a2 : Bool) (a3 a4 : Int) (a5 : Bool) (a6 a7 a8 b1 : Int) (b2 : Bool) (b3 b4 : Int) (b5 : Bool) (b6 b7 b8 : Int) (w : World) :
    (binOp .eql 40 (.agg #[.int .u8 a1, .bool a2, .int .i64 a3, .int .i64 a4, .bool a5, .int .i64 a6, .int .i64 a7, .int .i64 a8]) (.agg #[.int .u8 b1, .bool b2, .int .i64 b3, .int .i64 b4, .bool b5, .int .i64 b6, .int .i64 b7, .int .i64 b8])).run Tryz.prog w = .ok (.bool (decide ((⟨a1, a2, a3, a4, a5, a6, a7, a8⟩ : IV) = ⟨b1, b2, b3, b4, b5, b6, b7, b8⟩))) w := by
  have he : decide ((⟨a1, a2, a3, a4, a5, a6, a7, a8⟩ : IV) = ⟨b1, b2, b3, b4, b5, b6, b7, b8⟩) = ((a1 == b1) && ((a2 == b2) && ((a3 == b3) && ((a4 == b4) && ((a5 == b5) && ((a6 == b6) && ((a7 == b7) && (a8 == b8)))))))) := by
    rw [Bool.eq_iff_iff]
    simp
  rw [he]
  rw [run_eql_struct]
  have h1 : Tryz.prog.underlying 40 = some (.struct (Tryz.prog.fieldsOf 40)) := by kernel_rfl
  have h2 : Tryz.prog.stoodInHeld 40 = false := by kernel_rfl
  rw [run_equalIn_struct w 9999 40 _ _ h1 h2]
  simp [go_sem, Program.fieldsOf, Op.eqFields]
  repeat' split
  all_goals simp_all
theorem within_any (n a b : Int) (w : World) : Calls Tryz.prog 42 #[.int .i64 n, .int .i64 a, .int .i64 b] w fun e w' => e = .returned (.bool (inI n a b)) ∧ w' = w := by
  unfold inI
  by_cases h1 : a ≤ n <;> by_cases h2 : n ≤ b
  all_goals
    go_enter Tryz.func42, Tryz.ntmps42
    go_wp2_with fail
    go_ret
    refine ⟨?_, rfl⟩
    show Ending.returned (Value.bool _) = Ending.returned (Value.bool _)
    first
      | rfl
      | simp [h1, h2]
def fldP (op : Int) : Int := if 1 ≤ op ∧ op ≤ 12 then 201 else if op = 13 then 193 else if op = 14 then 181 else if op = 15 then 186 else if op = 16 then 144 else if 17 ≤ op ∧ op ≤ 27 then 218 else if op = 28 then 128 else 0
theorem fields_any (op : Int) (w : World) : Calls Tryz.prog 40 #[.int .u8 op] w fun e w' => e = .returned (.int .i64 (fldP op)) ∧ w' = w := by
  unfold fldP
  by_cases h1 : 1 ≤ op <;> by_cases h2 : op ≤ 12 <;> by_cases h3 : op = 13 <;> by_cases h4 : op = 14 <;> by_cases h5 : op = 15 <;> by_cases h6 : op = 16 <;> by_cases h7 : 17 ≤ op <;> by_cases h8 : op ≤ 27 <;> by_cases h9 : op = 28
  all_goals first | (exfalso; omega) | skip
  all_goals
    go_enter Tryz.func40, Tryz.ntmps40
    go_wp2_with fail
    go_ret
    refine ⟨?_, rfl⟩
    first
      | rfl
      | simp_all
theorem sizes_any (n : Int) (g c : Nat) (w : World) (h : Bk w g 3 [.int .i64 1, .int .i64 2, .int .i64 4, .int .i64 8]) : Calls Tryz.prog 41 #[.slice (some ⟨g, 0, none⟩) 4 c, .int .i64 n] w fun e w' => e = .returned (.bool (decide (n = 1) || decide (n = 2) || decide (n = 4) || decide (n = 8))) ∧ w' = w := by
  have := Tryz.slices_Contains_int g 0 4 c [1, 2, 4, 8] n w (by decide) (by decide) (fun j hj => by
    rw [Nat.zero_add, h.cell j]
    match j, hj with
    | 0, _ => rfl
    | 1, _ => rfl
    | 2, _ => rfl
    | 3, _ => rfl)
  refine this.mono ?_
  rintro e w' ⟨rfl, rfl⟩
  refine ⟨?_, rfl⟩
  congr 2
  rw [Bool.eq_iff_iff]
  simp [or_assoc]
theorem sizes_new (n : Int) (W : World) (g : Nat) (h : W.heap.size = g) : Calls Tryz.prog 41 #[.slice (some ⟨g, 0, none⟩) 4 4, .int .i64 n] (W.alloc (.cells #[.int .i64 1, .int .i64 2, .int .i64 4, .int .i64 8] 3)) fun e w' => e = .returned (.bool (decide (n = 1) || decide (n = 2) || decide (n = 4) || decide (n = 8))) ∧ w' = W.alloc (.cells #[.int .i64 1, .int .i64 2, .int .i64 4, .int .i64 8] 3) := by
  subst h
  exact sizes_any n W.heap.size 4 _ (Bk.new W _ _)
theorem sizes_newD (n : Int) (W : World) (g : Nat) (h : W.heap.size = g) : Calls Tryz.prog 41 #[.slice (some ⟨g, 0, none⟩) 4 4, .int .i64 n] (W.alloc (.cells #[.int .i64 1, .int .i64 2, .int .i64 4, .int .i64 8] 3)).drew fun e w' => e = .returned (.bool (decide (n = 1) || decide (n = 2) || decide (n = 4) || decide (n = 8))) ∧ w' = (W.alloc (.cells #[.int .i64 1, .int .i64 2, .int .i64 4, .int .i64 8] 3)).drew := by
  subst h
  exact sizes_any n W.heap.size 4 _ (Bk.drew (Bk.new W _ _))
end Go.Proofs.YtjebjninlejoeaaGreatDoor

