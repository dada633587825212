/- text, the walk: an instruction's line, its parts. -/
import Derived.Test.YtjebjninlejoeaaGreatDoorX12
namespace Go.Proofs.YtjebjninlejoeaaGreatDoor
open Go.RowKit Go.Maps Go.ChangeMaps
set_option linter.unusedVariables false
set_option linter.unusedSimpArgs false
set_option linter.unusedSectionVars false
set_option maxRecDepth 100000

def strV (s : Nm) : Value := .string ⟨s.toArray⟩
theorem name_any {B : Nat} (n : Int) (hn : I64 n) (w : World) (hv : Tv B w) : Calls Tryz.prog 101 #[.int .i64 n] w fun e w' => e = .returned (.string ⟨(regN n).toArray⟩) ∧ Below w.heap.size w w' := by
  have hcon := itoa_any n hn.1 hn.2 w hv
  have hl := Lib.itoa_length_le n hn.1 hn.2
  have q1 : ¬ 9223372036854775807 < 1 + (Lib.itoa n).length := by omega
  have hc : ((⟨#[114]⟩ : ByteArray) ++ ⟨(Lib.itoa n).toArray⟩) = ⟨(regN n).toArray⟩ := cat_is [114] (Lib.itoa n)
  go_enter Tryz.func101, Tryz.ntmps101
  go_wp2_with fail
  (with_reducible refine hcon.mono ?_)
  rintro _ w1 ⟨rfl, b1⟩
  go_wp2_with fail
  go_ret
  exact ⟨rfl, b1⟩
theorem apart_any {B : Nat} (n : Int) (hn : -9223372036854775807 ≤ n ∧ n ≤ 9223372036854775807) (b : Nm) (hb : b.length ≤ 100) (w : World) (hv : Tv B w) : Calls Tryz.prog 100 #[.int .i64 n, .string ⟨b.toArray⟩] w fun e w' => e = .returned (.string ⟨(apartS n b).toArray⟩) ∧ Below w.heap.size w w' := by
  unfold apartS
  by_cases h0 : n < 0
  · have d1 : decide (n < 0) = true := decide_eq_true h0
    have hcon := itoa_any (-n) (by omega) (by omega) w hv
    have hl := Lib.itoa_length_le (-n) (by omega) (by omega)
    have q1 : ¬ 9223372036854775807 < 1 + b.length := by omega
    have q2 : ¬ 9223372036854775807 < (45 :: b).length + (Lib.itoa (-n)).length := by simp; omega
    have q3 : ¬ 9223372036854775807 < b.length + 1 + (Lib.itoa (-n)).length := by omega
    have hc : ((⟨#[45]⟩ : ByteArray) ++ ⟨b.toArray⟩) = ⟨(45 :: b).toArray⟩ := cat_is [45] b
    have hc2 : ((⟨(45 :: b).toArray⟩ : ByteArray) ++ ⟨(Lib.itoa (-n)).toArray⟩) = ⟨(45 :: (b ++ Lib.itoa (-n))).toArray⟩ := cat_is (45 :: b) _
    rw [if_pos h0]
    go_enter Tryz.func100, Tryz.ntmps100
    go_wp2_with fail
    (with_reducible refine hcon.mono ?_)
    rintro _ w1 ⟨rfl, b1⟩
    go_wp2_with fail
    go_ret
    exact ⟨rfl, b1⟩
  · have d1 : decide (n < 0) = false := decide_eq_false h0
    have hcon := itoa_any n (by omega) (by omega) w hv
    have hl := Lib.itoa_length_le n (by omega) (by omega)
    have q1 : ¬ 9223372036854775807 < 1 + b.length := by omega
    have q2 : ¬ 9223372036854775807 < (43 :: b).length + (Lib.itoa n).length := by simp; omega
    have q3 : ¬ 9223372036854775807 < b.length + 1 + (Lib.itoa n).length := by omega
    have hc : ((⟨#[43]⟩ : ByteArray) ++ ⟨b.toArray⟩) = ⟨(43 :: b).toArray⟩ := cat_is [43] b
    have hc2 : ((⟨(43 :: b).toArray⟩ : ByteArray) ++ ⟨(Lib.itoa n).toArray⟩) = ⟨(43 :: (b ++ Lib.itoa n)).toArray⟩ := cat_is (43 :: b) _
    rw [if_neg h0]
    go_enter Tryz.func100, Tryz.ntmps100
    go_wp2_with fail
    (with_reducible refine hcon.mono ?_)
    rintro _ w1 ⟨rfl, b1⟩
    go_wp2_with fail
    go_ret
    exact ⟨rfl, b1⟩
theorem last_any {B : Nat} (i : IV) (h1 : I64 i.imm) (h2 : I64 i.src) (w : World) (hv : Tv B w) (hB : B ≤ w.heap.size) : Calls Tryz.prog 103 #[.agg (ivV i).toArray] w fun e w' => e = .returned (.string ⟨(lastS i).toArray⟩) ∧ Below w.heap.size w w' := by
  obtain ⟨op, nr, d, s, u, o, m, z⟩ := i
  show Calls Tryz.prog 103 #[.agg #[.int .u8 op, .bool nr, .int .i64 d, .int .i64 s, .bool u, .int .i64 o, .int .i64 m, .int .i64 z]] w _
  have n1 := (Below.refl w.heap.size w).alloc (Nat.le_refl _) (.cells #[.int .u8 op, .bool nr, .int .i64 d, .int .i64 s, .bool u, .int .i64 o, .int .i64 m, .int .i64 z] 40)
  have hv1 := hv.below n1 hB
  have n2 : w.heap.size ≤ (w.alloc (.cells #[.int .u8 op, .bool nr, .int .i64 d, .int .i64 s, .bool u, .int .i64 o, .int .i64 m, .int .i64 z] 40)).heap.size := by rw [World.size_alloc]; omega
  cases u
  · have hcon := name_any s h2 _ hv1
    go_enter Tryz.func103, Tryz.ntmps103
    go_wp2_with fail
    (with_reducible refine hcon.mono ?_)
    rintro _ w1 ⟨rfl, b1⟩
    go_wp2_with fail
    go_ret
    exact ⟨rfl, n1.trans (b1.mono n2)⟩
  · have hcon := itoa_any m h1.1 h1.2 _ hv1
    go_enter Tryz.func103, Tryz.ntmps103
    go_wp2_with fail
    (with_reducible refine hcon.mono ?_)
    rintro _ w1 ⟨rfl, b1⟩
    go_wp2_with fail
    go_ret
    exact ⟨rfl, n1.trans (b1.mono n2)⟩
end Go.Proofs.YtjebjninlejoeaaGreatDoor

