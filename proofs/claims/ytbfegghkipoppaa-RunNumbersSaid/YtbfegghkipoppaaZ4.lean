/- alu.do[u64]. -/
import Derived.Test.YtbfegghkipoppaaZ2
namespace Go.Proofs.Ytbfegghkipoppaa
set_option maxRecDepth 100000
open Go.RowKit
set_option linter.unusedVariables false

theorem below4_u64 (w : World) (o1 o2 o3 o4 : Obj) (n : Nat) : Below w.heap.size w (((((w.alloc o1).alloc o2).alloc o3).alloc o4).drewN n) := by
  have h := ((((Below.refl w.heap.size w).alloc (Nat.le_refl _) o1).alloc (by simp) o2).alloc (by simp; omega) o3).alloc (by simp; omega) o4
  exact ⟨h.os, h.tape, h.output, h.size, h.block⟩

set_option maxHeartbeats 1000000 in
theorem do64_1 (a b : Int) (w : World) (ha0 : 0 ≤ a) (ha1 : a ≤ 18446744073709551615) (hb0 : 0 ≤ b) (hb1 : b ≤ 18446744073709551615) :
    Calls Try.prog 66 #[.int .u8 1, .int .u64 64, .int .u64 a, .int .u64 b] w fun e w' => e = .returned (.tuple #[.int .u64 (opV .u64 .i64 64 1 a b), .int .i64 0]) ∧ Below w.heap.size w w' := by
  have hmf : ∀ (fn : Fn) (first cap : Array Value) (w : World), (Instr.makeFunc fn first cap).run Try.prog w = .ok (.func fn first cap) w := fun _ _ _ _ => rfl
  have hmm := @run_makeMap Try.prog
  go_enter Try.func66, Try.ntmps66
  go_wp2_with fail
  iterate 13
    rw [upd_last Try.underlying108 Try.underlying38]
    rotate_left
    · simp
    · rfl
    simp only [List.nil_append, List.cons_append, Nat.reduceAdd]
    go_wp2_with fail
  rw [look_hit Try.underlying108 Try.underlying38 _ _ ?lkn _ _ _ 0 (.func (.func 87) #[] #[.pointer (some ⟨w.heap.size + 1, 0, none⟩), .pointer (some ⟨w.heap.size + 1 + 1, 0, none⟩)]) ?lkf]
  case lkn => simp
  case lkf => simp [Instr.findNow, Instr.sameNow]
  go_wp2_with fail
  refine (cu64_1 ⟨w.heap.size + 1, 0, none⟩ ⟨w.heap.size + 1 + 1, 0, none⟩ ⟨w.heap.size, 0, none⟩ a b _ ?_ ?_ ?_ ha0 ha1 hb0 hb1).mono ?_
  · exact (cell4 _ _ _ _ _ _).2.1
  · exact (cell4 _ _ _ _ _ _).2.2
  · exact (cell4 _ _ _ _ _ _).1
  rintro e w1 ⟨rfl, n, rfl⟩
  go_wp2_with fail
  go_ret2
  exact ⟨rfl, below4_u64 _ _ _ _ _ _⟩

set_option maxHeartbeats 1000000 in
theorem do64_2 (a b : Int) (w : World) (ha0 : 0 ≤ a) (ha1 : a ≤ 18446744073709551615) (hb0 : 0 ≤ b) (hb1 : b ≤ 18446744073709551615) :
    Calls Try.prog 66 #[.int .u8 2, .int .u64 64, .int .u64 a, .int .u64 b] w fun e w' => e = .returned (.tuple #[.int .u64 (opV .u64 .i64 64 2 a b), .int .i64 0]) ∧ Below w.heap.size w w' := by
  have hmf : ∀ (fn : Fn) (first cap : Array Value) (w : World), (Instr.makeFunc fn first cap).run Try.prog w = .ok (.func fn first cap) w := fun _ _ _ _ => rfl
  have hmm := @run_makeMap Try.prog
  go_enter Try.func66, Try.ntmps66
  go_wp2_with fail
  iterate 13
    rw [upd_last Try.underlying108 Try.underlying38]
    rotate_left
    · simp
    · rfl
    simp only [List.nil_append, List.cons_append, Nat.reduceAdd]
    go_wp2_with fail
  rw [look_hit Try.underlying108 Try.underlying38 _ _ ?lkn _ _ _ 1 (.func (.func 88) #[] #[.pointer (some ⟨w.heap.size + 1, 0, none⟩), .pointer (some ⟨w.heap.size + 1 + 1, 0, none⟩)]) ?lkf]
  case lkn => simp
  case lkf => simp [Instr.findNow, Instr.sameNow]
  go_wp2_with fail
  refine (cu64_2 ⟨w.heap.size + 1, 0, none⟩ ⟨w.heap.size + 1 + 1, 0, none⟩ ⟨w.heap.size, 0, none⟩ a b _ ?_ ?_ ?_ ha0 ha1 hb0 hb1).mono ?_
  · exact (cell4 _ _ _ _ _ _).2.1
  · exact (cell4 _ _ _ _ _ _).2.2
  · exact (cell4 _ _ _ _ _ _).1
  rintro e w1 ⟨rfl, n, rfl⟩
  go_wp2_with fail
  go_ret2
  exact ⟨rfl, below4_u64 _ _ _ _ _ _⟩

set_option maxHeartbeats 1000000 in
theorem do64_3 (a b : Int) (w : World) (ha0 : 0 ≤ a) (ha1 : a ≤ 18446744073709551615) (hb0 : 0 ≤ b) (hb1 : b ≤ 18446744073709551615) :
    Calls Try.prog 66 #[.int .u8 3, .int .u64 64, .int .u64 a, .int .u64 b] w fun e w' => e = .returned (.tuple #[.int .u64 (opV .u64 .i64 64 3 a b), .int .i64 0]) ∧ Below w.heap.size w w' := by
  have hmf : ∀ (fn : Fn) (first cap : Array Value) (w : World), (Instr.makeFunc fn first cap).run Try.prog w = .ok (.func fn first cap) w := fun _ _ _ _ => rfl
  have hmm := @run_makeMap Try.prog
  go_enter Try.func66, Try.ntmps66
  go_wp2_with fail
  iterate 13
    rw [upd_last Try.underlying108 Try.underlying38]
    rotate_left
    · simp
    · rfl
    simp only [List.nil_append, List.cons_append, Nat.reduceAdd]
    go_wp2_with fail
  rw [look_hit Try.underlying108 Try.underlying38 _ _ ?lkn _ _ _ 2 (.func (.func 89) #[] #[.pointer (some ⟨w.heap.size + 1, 0, none⟩), .pointer (some ⟨w.heap.size + 1 + 1, 0, none⟩)]) ?lkf]
  case lkn => simp
  case lkf => simp [Instr.findNow, Instr.sameNow]
  go_wp2_with fail
  refine (cu64_3 ⟨w.heap.size + 1, 0, none⟩ ⟨w.heap.size + 1 + 1, 0, none⟩ ⟨w.heap.size, 0, none⟩ a b _ ?_ ?_ ?_ ha0 ha1 hb0 hb1).mono ?_
  · exact (cell4 _ _ _ _ _ _).2.1
  · exact (cell4 _ _ _ _ _ _).2.2
  · exact (cell4 _ _ _ _ _ _).1
  rintro e w1 ⟨rfl, n, rfl⟩
  go_wp2_with fail
  go_ret2
  exact ⟨rfl, below4_u64 _ _ _ _ _ _⟩

set_option maxHeartbeats 1000000 in
theorem do64_4 (a b : Int) (w : World) (ha0 : 0 ≤ a) (ha1 : a ≤ 18446744073709551615) (hb0 : 0 ≤ b) (hb1 : b ≤ 18446744073709551615) (hb : 1 ≤ b) :
    Calls Try.prog 66 #[.int .u8 4, .int .u64 64, .int .u64 a, .int .u64 b] w fun e w' => e = .returned (.tuple #[.int .u64 (opV .u64 .i64 64 4 a b), .int .i64 0]) ∧ Below w.heap.size w w' := by
  have hbz : (b == 0) = false := beq_eq_false_iff_ne.2 (by omega)
  have hmf : ∀ (fn : Fn) (first cap : Array Value) (w : World), (Instr.makeFunc fn first cap).run Try.prog w = .ok (.func fn first cap) w := fun _ _ _ _ => rfl
  have hmm := @run_makeMap Try.prog
  go_enter Try.func66, Try.ntmps66
  go_wp2_with fail
  iterate 13
    rw [upd_last Try.underlying108 Try.underlying38]
    rotate_left
    · simp
    · rfl
    simp only [List.nil_append, List.cons_append, Nat.reduceAdd]
    go_wp2_with fail
  rw [look_hit Try.underlying108 Try.underlying38 _ _ ?lkn _ _ _ 3 (.func (.func 90) #[] #[.pointer (some ⟨w.heap.size + 1, 0, none⟩), .pointer (some ⟨w.heap.size + 1 + 1, 0, none⟩)]) ?lkf]
  case lkn => simp
  case lkf => simp [Instr.findNow, Instr.sameNow]
  go_wp2_with fail
  refine (cu64_4 ⟨w.heap.size + 1, 0, none⟩ ⟨w.heap.size + 1 + 1, 0, none⟩ ⟨w.heap.size, 0, none⟩ a b _ ?_ ?_ ?_ ha0 ha1 hb0 hb1 hb).mono ?_
  · exact (cell4 _ _ _ _ _ _).2.1
  · exact (cell4 _ _ _ _ _ _).2.2
  · exact (cell4 _ _ _ _ _ _).1
  rintro e w1 ⟨rfl, n, rfl⟩
  go_wp2_with fail
  go_ret2
  exact ⟨rfl, below4_u64 _ _ _ _ _ _⟩

set_option maxHeartbeats 1000000 in
theorem do64_5 (a b : Int) (w : World) (ha0 : 0 ≤ a) (ha1 : a ≤ 18446744073709551615) (hb0 : 0 ≤ b) (hb1 : b ≤ 18446744073709551615) (hb : 1 ≤ b) :
    Calls Try.prog 66 #[.int .u8 5, .int .u64 64, .int .u64 a, .int .u64 b] w fun e w' => e = .returned (.tuple #[.int .u64 (opV .u64 .i64 64 5 a b), .int .i64 0]) ∧ Below w.heap.size w w' := by
  have hbz : (b == 0) = false := beq_eq_false_iff_ne.2 (by omega)
  have hmf : ∀ (fn : Fn) (first cap : Array Value) (w : World), (Instr.makeFunc fn first cap).run Try.prog w = .ok (.func fn first cap) w := fun _ _ _ _ => rfl
  have hmm := @run_makeMap Try.prog
  go_enter Try.func66, Try.ntmps66
  go_wp2_with fail
  iterate 13
    rw [upd_last Try.underlying108 Try.underlying38]
    rotate_left
    · simp
    · rfl
    simp only [List.nil_append, List.cons_append, Nat.reduceAdd]
    go_wp2_with fail
  rw [look_hit Try.underlying108 Try.underlying38 _ _ ?lkn _ _ _ 4 (.func (.func 91) #[] #[.pointer (some ⟨w.heap.size + 1, 0, none⟩), .pointer (some ⟨w.heap.size + 1 + 1, 0, none⟩)]) ?lkf]
  case lkn => simp
  case lkf => simp [Instr.findNow, Instr.sameNow]
  go_wp2_with fail
  refine (cu64_5 ⟨w.heap.size + 1, 0, none⟩ ⟨w.heap.size + 1 + 1, 0, none⟩ ⟨w.heap.size, 0, none⟩ a b _ ?_ ?_ ?_ ha0 ha1 hb0 hb1 hb).mono ?_
  · exact (cell4 _ _ _ _ _ _).2.1
  · exact (cell4 _ _ _ _ _ _).2.2
  · exact (cell4 _ _ _ _ _ _).1
  rintro e w1 ⟨rfl, n, rfl⟩
  go_wp2_with fail
  go_ret2
  exact ⟨rfl, below4_u64 _ _ _ _ _ _⟩

set_option maxHeartbeats 1000000 in
theorem do64_6 (a b : Int) (w : World) (ha0 : 0 ≤ a) (ha1 : a ≤ 18446744073709551615) (hb0 : 0 ≤ b) (hb1 : b ≤ 18446744073709551615) :
    Calls Try.prog 66 #[.int .u8 6, .int .u64 64, .int .u64 a, .int .u64 b] w fun e w' => e = .returned (.tuple #[.int .u64 (opV .u64 .i64 64 6 a b), .int .i64 0]) ∧ Below w.heap.size w w' := by
  have hmf : ∀ (fn : Fn) (first cap : Array Value) (w : World), (Instr.makeFunc fn first cap).run Try.prog w = .ok (.func fn first cap) w := fun _ _ _ _ => rfl
  have hmm := @run_makeMap Try.prog
  go_enter Try.func66, Try.ntmps66
  go_wp2_with fail
  iterate 13
    rw [upd_last Try.underlying108 Try.underlying38]
    rotate_left
    · simp
    · rfl
    simp only [List.nil_append, List.cons_append, Nat.reduceAdd]
    go_wp2_with fail
  rw [look_hit Try.underlying108 Try.underlying38 _ _ ?lkn _ _ _ 5 (.func (.func 92) #[] #[.pointer (some ⟨w.heap.size + 1, 0, none⟩), .pointer (some ⟨w.heap.size + 1 + 1, 0, none⟩)]) ?lkf]
  case lkn => simp
  case lkf => simp [Instr.findNow, Instr.sameNow]
  go_wp2_with fail
  refine (cu64_6 ⟨w.heap.size + 1, 0, none⟩ ⟨w.heap.size + 1 + 1, 0, none⟩ ⟨w.heap.size, 0, none⟩ a b _ ?_ ?_ ?_ ha0 ha1 hb0 hb1).mono ?_
  · exact (cell4 _ _ _ _ _ _).2.1
  · exact (cell4 _ _ _ _ _ _).2.2
  · exact (cell4 _ _ _ _ _ _).1
  rintro e w1 ⟨rfl, n, rfl⟩
  go_wp2_with fail
  go_ret2
  exact ⟨rfl, below4_u64 _ _ _ _ _ _⟩

set_option maxHeartbeats 1000000 in
theorem do64_7 (a b : Int) (w : World) (ha0 : 0 ≤ a) (ha1 : a ≤ 18446744073709551615) (hb0 : 0 ≤ b) (hb1 : b ≤ 18446744073709551615) :
    Calls Try.prog 66 #[.int .u8 7, .int .u64 64, .int .u64 a, .int .u64 b] w fun e w' => e = .returned (.tuple #[.int .u64 (opV .u64 .i64 64 7 a b), .int .i64 0]) ∧ Below w.heap.size w w' := by
  have hmf : ∀ (fn : Fn) (first cap : Array Value) (w : World), (Instr.makeFunc fn first cap).run Try.prog w = .ok (.func fn first cap) w := fun _ _ _ _ => rfl
  have hmm := @run_makeMap Try.prog
  go_enter Try.func66, Try.ntmps66
  go_wp2_with fail
  iterate 13
    rw [upd_last Try.underlying108 Try.underlying38]
    rotate_left
    · simp
    · rfl
    simp only [List.nil_append, List.cons_append, Nat.reduceAdd]
    go_wp2_with fail
  rw [look_hit Try.underlying108 Try.underlying38 _ _ ?lkn _ _ _ 6 (.func (.func 93) #[] #[.pointer (some ⟨w.heap.size + 1, 0, none⟩), .pointer (some ⟨w.heap.size + 1 + 1, 0, none⟩)]) ?lkf]
  case lkn => simp
  case lkf => simp [Instr.findNow, Instr.sameNow]
  go_wp2_with fail
  refine (cu64_7 ⟨w.heap.size + 1, 0, none⟩ ⟨w.heap.size + 1 + 1, 0, none⟩ ⟨w.heap.size, 0, none⟩ a b _ ?_ ?_ ?_ ha0 ha1 hb0 hb1).mono ?_
  · exact (cell4 _ _ _ _ _ _).2.1
  · exact (cell4 _ _ _ _ _ _).2.2
  · exact (cell4 _ _ _ _ _ _).1
  rintro e w1 ⟨rfl, n, rfl⟩
  go_wp2_with fail
  go_ret2
  exact ⟨rfl, below4_u64 _ _ _ _ _ _⟩

set_option maxHeartbeats 1000000 in
theorem do64_8 (a b : Int) (w : World) (ha0 : 0 ≤ a) (ha1 : a ≤ 18446744073709551615) (hb0 : 0 ≤ b) (hb1 : b ≤ 18446744073709551615) :
    Calls Try.prog 66 #[.int .u8 8, .int .u64 64, .int .u64 a, .int .u64 b] w fun e w' => e = .returned (.tuple #[.int .u64 (opV .u64 .i64 64 8 a b), .int .i64 0]) ∧ Below w.heap.size w w' := by
  have hmf : ∀ (fn : Fn) (first cap : Array Value) (w : World), (Instr.makeFunc fn first cap).run Try.prog w = .ok (.func fn first cap) w := fun _ _ _ _ => rfl
  have hmm := @run_makeMap Try.prog
  go_enter Try.func66, Try.ntmps66
  go_wp2_with fail
  iterate 13
    rw [upd_last Try.underlying108 Try.underlying38]
    rotate_left
    · simp
    · rfl
    simp only [List.nil_append, List.cons_append, Nat.reduceAdd]
    go_wp2_with fail
  rw [look_hit Try.underlying108 Try.underlying38 _ _ ?lkn _ _ _ 7 (.func (.func 94) #[] #[.pointer (some ⟨w.heap.size + 1, 0, none⟩), .pointer (some ⟨w.heap.size + 1 + 1, 0, none⟩)]) ?lkf]
  case lkn => simp
  case lkf => simp [Instr.findNow, Instr.sameNow]
  go_wp2_with fail
  refine (cu64_8 ⟨w.heap.size + 1, 0, none⟩ ⟨w.heap.size + 1 + 1, 0, none⟩ ⟨w.heap.size, 0, none⟩ a b _ ?_ ?_ ?_ ha0 ha1 hb0 hb1).mono ?_
  · exact (cell4 _ _ _ _ _ _).2.1
  · exact (cell4 _ _ _ _ _ _).2.2
  · exact (cell4 _ _ _ _ _ _).1
  rintro e w1 ⟨rfl, n, rfl⟩
  go_wp2_with fail
  go_ret2
  exact ⟨rfl, below4_u64 _ _ _ _ _ _⟩

set_option maxHeartbeats 1000000 in
theorem do64_9 (a b : Int) (w : World) (ha0 : 0 ≤ a) (ha1 : a ≤ 18446744073709551615) (hb0 : 0 ≤ b) (hb1 : b ≤ 18446744073709551615) :
    Calls Try.prog 66 #[.int .u8 9, .int .u64 64, .int .u64 a, .int .u64 b] w fun e w' => e = .returned (.tuple #[.int .u64 (opV .u64 .i64 64 9 a b), .int .i64 0]) ∧ Below w.heap.size w w' := by
  have hmf : ∀ (fn : Fn) (first cap : Array Value) (w : World), (Instr.makeFunc fn first cap).run Try.prog w = .ok (.func fn first cap) w := fun _ _ _ _ => rfl
  have hmm := @run_makeMap Try.prog
  go_enter Try.func66, Try.ntmps66
  go_wp2_with fail
  iterate 13
    rw [upd_last Try.underlying108 Try.underlying38]
    rotate_left
    · simp
    · rfl
    simp only [List.nil_append, List.cons_append, Nat.reduceAdd]
    go_wp2_with fail
  rw [look_hit Try.underlying108 Try.underlying38 _ _ ?lkn _ _ _ 8 (.func (.func 95) #[] #[.pointer (some ⟨w.heap.size + 1, 0, none⟩), .pointer (some ⟨w.heap.size + 1 + 1, 0, none⟩), .pointer (some ⟨w.heap.size, 0, none⟩)]) ?lkf]
  case lkn => simp
  case lkf => simp [Instr.findNow, Instr.sameNow]
  go_wp2_with fail
  refine (cu64_9 ⟨w.heap.size + 1, 0, none⟩ ⟨w.heap.size + 1 + 1, 0, none⟩ ⟨w.heap.size, 0, none⟩ a b _ ?_ ?_ ?_ ha0 ha1 hb0 hb1).mono ?_
  · exact (cell4 _ _ _ _ _ _).2.1
  · exact (cell4 _ _ _ _ _ _).2.2
  · exact (cell4 _ _ _ _ _ _).1
  rintro e w1 ⟨rfl, n, rfl⟩
  go_wp2_with fail
  go_ret2
  exact ⟨rfl, below4_u64 _ _ _ _ _ _⟩

set_option maxHeartbeats 1000000 in
theorem do64_10 (a b : Int) (w : World) (ha0 : 0 ≤ a) (ha1 : a ≤ 18446744073709551615) (hb0 : 0 ≤ b) (hb1 : b ≤ 18446744073709551615) :
    Calls Try.prog 66 #[.int .u8 10, .int .u64 64, .int .u64 a, .int .u64 b] w fun e w' => e = .returned (.tuple #[.int .u64 (opV .u64 .i64 64 10 a b), .int .i64 0]) ∧ Below w.heap.size w w' := by
  have hmf : ∀ (fn : Fn) (first cap : Array Value) (w : World), (Instr.makeFunc fn first cap).run Try.prog w = .ok (.func fn first cap) w := fun _ _ _ _ => rfl
  have hmm := @run_makeMap Try.prog
  go_enter Try.func66, Try.ntmps66
  go_wp2_with fail
  iterate 13
    rw [upd_last Try.underlying108 Try.underlying38]
    rotate_left
    · simp
    · rfl
    simp only [List.nil_append, List.cons_append, Nat.reduceAdd]
    go_wp2_with fail
  rw [look_hit Try.underlying108 Try.underlying38 _ _ ?lkn _ _ _ 9 (.func (.func 96) #[] #[.pointer (some ⟨w.heap.size + 1, 0, none⟩), .pointer (some ⟨w.heap.size + 1 + 1, 0, none⟩), .pointer (some ⟨w.heap.size, 0, none⟩)]) ?lkf]
  case lkn => simp
  case lkf => simp [Instr.findNow, Instr.sameNow]
  go_wp2_with fail
  refine (cu64_10 ⟨w.heap.size + 1, 0, none⟩ ⟨w.heap.size + 1 + 1, 0, none⟩ ⟨w.heap.size, 0, none⟩ a b _ ?_ ?_ ?_ ha0 ha1 hb0 hb1).mono ?_
  · exact (cell4 _ _ _ _ _ _).2.1
  · exact (cell4 _ _ _ _ _ _).2.2
  · exact (cell4 _ _ _ _ _ _).1
  rintro e w1 ⟨rfl, n, rfl⟩
  go_wp2_with fail
  go_ret2
  exact ⟨rfl, below4_u64 _ _ _ _ _ _⟩

set_option maxHeartbeats 1000000 in
theorem do64_11 (a b : Int) (w : World) (ha0 : 0 ≤ a) (ha1 : a ≤ 18446744073709551615) (hb0 : 0 ≤ b) (hb1 : b ≤ 18446744073709551615) :
    Calls Try.prog 66 #[.int .u8 11, .int .u64 64, .int .u64 a, .int .u64 b] w fun e w' => e = .returned (.tuple #[.int .u64 (opV .u64 .i64 64 11 a b), .int .i64 0]) ∧ Below w.heap.size w w' := by
  have hmf : ∀ (fn : Fn) (first cap : Array Value) (w : World), (Instr.makeFunc fn first cap).run Try.prog w = .ok (.func fn first cap) w := fun _ _ _ _ => rfl
  have hmm := @run_makeMap Try.prog
  go_enter Try.func66, Try.ntmps66
  go_wp2_with fail
  iterate 13
    rw [upd_last Try.underlying108 Try.underlying38]
    rotate_left
    · simp
    · rfl
    simp only [List.nil_append, List.cons_append, Nat.reduceAdd]
    go_wp2_with fail
  rw [look_hit Try.underlying108 Try.underlying38 _ _ ?lkn _ _ _ 10 (.func (.func 97) #[] #[.pointer (some ⟨w.heap.size + 1, 0, none⟩), .pointer (some ⟨w.heap.size + 1 + 1, 0, none⟩), .pointer (some ⟨w.heap.size, 0, none⟩)]) ?lkf]
  case lkn => simp
  case lkf => simp [Instr.findNow, Instr.sameNow]
  go_wp2_with fail
  refine (cu64_11 ⟨w.heap.size + 1, 0, none⟩ ⟨w.heap.size + 1 + 1, 0, none⟩ ⟨w.heap.size, 0, none⟩ a b _ ?_ ?_ ?_ ha0 ha1 hb0 hb1).mono ?_
  · exact (cell4 _ _ _ _ _ _).2.1
  · exact (cell4 _ _ _ _ _ _).2.2
  · exact (cell4 _ _ _ _ _ _).1
  rintro e w1 ⟨rfl, n, rfl⟩
  go_wp2_with fail
  go_ret2
  exact ⟨rfl, below4_u64 _ _ _ _ _ _⟩

set_option maxHeartbeats 1000000 in
theorem do64_12 (a b : Int) (w : World) (ha0 : 0 ≤ a) (ha1 : a ≤ 18446744073709551615) (hb0 : 0 ≤ b) (hb1 : b ≤ 18446744073709551615) :
    Calls Try.prog 66 #[.int .u8 12, .int .u64 64, .int .u64 a, .int .u64 b] w fun e w' => e = .returned (.tuple #[.int .u64 (opV .u64 .i64 64 12 a b), .int .i64 0]) ∧ Below w.heap.size w w' := by
  have hmf : ∀ (fn : Fn) (first cap : Array Value) (w : World), (Instr.makeFunc fn first cap).run Try.prog w = .ok (.func fn first cap) w := fun _ _ _ _ => rfl
  have hmm := @run_makeMap Try.prog
  go_enter Try.func66, Try.ntmps66
  go_wp2_with fail
  iterate 13
    rw [upd_last Try.underlying108 Try.underlying38]
    rotate_left
    · simp
    · rfl
    simp only [List.nil_append, List.cons_append, Nat.reduceAdd]
    go_wp2_with fail
  rw [look_hit Try.underlying108 Try.underlying38 _ _ ?lkn _ _ _ 11 (.func (.func 98) #[] #[.pointer (some ⟨w.heap.size + 1 + 1, 0, none⟩)]) ?lkf]
  case lkn => simp
  case lkf => simp [Instr.findNow, Instr.sameNow]
  go_wp2_with fail
  refine (cu64_12 ⟨w.heap.size + 1, 0, none⟩ ⟨w.heap.size + 1 + 1, 0, none⟩ ⟨w.heap.size, 0, none⟩ a b _ ?_ ?_ ?_ ha0 ha1 hb0 hb1).mono ?_
  · exact (cell4 _ _ _ _ _ _).2.1
  · exact (cell4 _ _ _ _ _ _).2.2
  · exact (cell4 _ _ _ _ _ _).1
  rintro e w1 ⟨rfl, n, rfl⟩
  go_wp2_with fail
  go_ret2
  exact ⟨rfl, below4_u64 _ _ _ _ _ _⟩

set_option maxHeartbeats 1000000 in
theorem do64_13 (a b : Int) (w : World) (ha0 : 0 ≤ a) (ha1 : a ≤ 18446744073709551615) (hb0 : 0 ≤ b) (hb1 : b ≤ 18446744073709551615) :
    Calls Try.prog 66 #[.int .u8 13, .int .u64 64, .int .u64 a, .int .u64 b] w fun e w' => e = .returned (.tuple #[.int .u64 (opV .u64 .i64 64 13 a b), .int .i64 0]) ∧ Below w.heap.size w w' := by
  have hmf : ∀ (fn : Fn) (first cap : Array Value) (w : World), (Instr.makeFunc fn first cap).run Try.prog w = .ok (.func fn first cap) w := fun _ _ _ _ => rfl
  have hmm := @run_makeMap Try.prog
  go_enter Try.func66, Try.ntmps66
  go_wp2_with fail
  iterate 13
    rw [upd_last Try.underlying108 Try.underlying38]
    rotate_left
    · simp
    · rfl
    simp only [List.nil_append, List.cons_append, Nat.reduceAdd]
    go_wp2_with fail
  rw [look_hit Try.underlying108 Try.underlying38 _ _ ?lkn _ _ _ 12 (.func (.func 99) #[] #[.pointer (some ⟨w.heap.size + 1, 0, none⟩)]) ?lkf]
  case lkn => simp
  case lkf => simp [Instr.findNow, Instr.sameNow]
  go_wp2_with fail
  refine (cu64_13 ⟨w.heap.size + 1, 0, none⟩ ⟨w.heap.size + 1 + 1, 0, none⟩ ⟨w.heap.size, 0, none⟩ a b _ ?_ ?_ ?_ ha0 ha1 hb0 hb1).mono ?_
  · exact (cell4 _ _ _ _ _ _).2.1
  · exact (cell4 _ _ _ _ _ _).2.2
  · exact (cell4 _ _ _ _ _ _).1
  rintro e w1 ⟨rfl, n, rfl⟩
  go_wp2_with fail
  go_ret2
  exact ⟨rfl, below4_u64 _ _ _ _ _ _⟩

theorem do64_z4 (a : Int) (w : World) :
    Calls Try.prog 66 #[.int .u8 4, .int .u64 64, .int .u64 a, .int .u64 0] w fun e w' => e = .returned (.tuple #[.int .u64 0, .int .i64 113]) ∧ Below w.heap.size w w' := by
  go_enter Try.func66, Try.ntmps66
  go_wp2
  go_ret2
  exact ⟨rfl, (((Below.refl _ _).alloc (Nat.le_refl _) _).alloc (by simp) _).alloc (by simp; omega) _⟩

theorem do64_z5 (a : Int) (w : World) :
    Calls Try.prog 66 #[.int .u8 5, .int .u64 64, .int .u64 a, .int .u64 0] w fun e w' => e = .returned (.tuple #[.int .u64 0, .int .i64 113]) ∧ Below w.heap.size w w' := by
  go_enter Try.func66, Try.ntmps66
  go_wp2
  go_ret2
  exact ⟨rfl, (((Below.refl _ _).alloc (Nat.le_refl _) _).alloc (by simp) _).alloc (by simp; omega) _⟩

theorem zero_f64 (w : World) : (zeroValue 106).run Try.prog w = .ok .nilFunc w := by kernel_rfl
set_option maxHeartbeats 1000000 in
theorem do64_no (op a b : Int) (w : World) (h1 : (op == 1) = false) (h2 : (op == 2) = false) (h3 : (op == 3) = false) (h4 : (op == 4) = false) (h5 : (op == 5) = false) (h6 : (op == 6) = false) (h7 : (op == 7) = false) (h8 : (op == 8) = false) (h9 : (op == 9) = false) (h10 : (op == 10) = false) (h11 : (op == 11) = false) (h12 : (op == 12) = false) (h13 : (op == 13) = false) :
    Calls Try.prog 66 #[.int .u8 op, .int .u64 64, .int .u64 a, .int .u64 b] w fun e w' => e = .returned (.tuple #[.int .u64 0, .int .i64 2]) ∧ Below w.heap.size w w' := by
  have hmf : ∀ (fn : Fn) (first cap : Array Value) (w : World), (Instr.makeFunc fn first cap).run Try.prog w = .ok (.func fn first cap) w := fun _ _ _ _ => rfl
  have hmm := @run_makeMap Try.prog
  go_enter Try.func66, Try.ntmps66
  go_wp2_with fail
  iterate 13
    rw [upd_last Try.underlying108 Try.underlying38]
    rotate_left
    · simp
    · rfl
    simp only [List.nil_append, List.cons_append, Nat.reduceAdd]
    go_wp2_with fail
  rw [look_miss Try.underlying108 Try.underlying38 _ _ ?lkn _ _ _ .nilFunc zero_f64 ?lkf]
  case lkn => simp
  case lkf => simp [Instr.findNow, Instr.sameNow, h1, h2, h3, h4, h5, h6, h7, h8, h9, h10, h11, h12, h13]
  go_wp2_with fail
  go_ret2
  exact ⟨rfl, below4_u64 _ _ _ _ _ 0⟩

end Go.Proofs.Ytbfegghkipoppaa
