/- alu.do[u32]. -/
import Derived.Test.YtbfegghkipoppaaZ2
namespace Go.Proofs.Ytbfegghkipoppaa
set_option maxRecDepth 100000
open Go.RowKit
set_option linter.unusedVariables false

theorem below4_u32 (w : World) (o1 o2 o3 o4 : Obj) (n : Nat) : Below w.heap.size w (((((w.alloc o1).alloc o2).alloc o3).alloc o4).drewN n) := by
  have h := ((((Below.refl w.heap.size w).alloc (Nat.le_refl _) o1).alloc (by simp) o2).alloc (by simp; omega) o3).alloc (by simp; omega) o4
  exact ⟨h.os, h.tape, h.output, h.size, h.block⟩

set_option maxHeartbeats 1000000 in
theorem do32_1 (a b : Int) (w : World) (ha0 : 0 ≤ a) (ha1 : a ≤ 4294967295) (hb0 : 0 ≤ b) (hb1 : b ≤ 4294967295) :
    Calls Try.prog 65 #[.int .u8 1, .int .u32 32, .int .u32 a, .int .u32 b] w fun e w' => e = .returned (.tuple #[.int .u32 (opV .u32 .i32 32 1 a b), .int .i64 0]) ∧ Below w.heap.size w w' := by
  have hmf : ∀ (fn : Fn) (first cap : Array Value) (w : World), (Instr.makeFunc fn first cap).run Try.prog w = .ok (.func fn first cap) w := fun _ _ _ _ => rfl
  have hmm := @run_makeMap Try.prog
  go_enter Try.func65, Try.ntmps65
  go_wp2_with fail
  iterate 13
    rw [upd_last Try.underlying105 Try.underlying38]
    rotate_left
    · simp
    · rfl
    simp only [List.nil_append, List.cons_append, Nat.reduceAdd]
    go_wp2_with fail
  rw [look_hit Try.underlying105 Try.underlying38 _ _ ?lkn _ _ _ 0 (.func (.func 74) #[] #[.pointer (some ⟨w.heap.size + 1, 0, none⟩), .pointer (some ⟨w.heap.size + 1 + 1, 0, none⟩)]) ?lkf]
  case lkn => simp
  case lkf => simp [Instr.findNow, Instr.sameNow]
  go_wp2_with fail
  refine (cu32_1 ⟨w.heap.size + 1, 0, none⟩ ⟨w.heap.size + 1 + 1, 0, none⟩ ⟨w.heap.size, 0, none⟩ a b _ ?_ ?_ ?_ ha0 ha1 hb0 hb1).mono ?_
  · exact (cell4 _ _ _ _ _ _).2.1
  · exact (cell4 _ _ _ _ _ _).2.2
  · exact (cell4 _ _ _ _ _ _).1
  rintro e w1 ⟨rfl, n, rfl⟩
  go_wp2_with fail
  go_ret2
  exact ⟨rfl, below4_u32 _ _ _ _ _ _⟩

set_option maxHeartbeats 1000000 in
theorem do32_2 (a b : Int) (w : World) (ha0 : 0 ≤ a) (ha1 : a ≤ 4294967295) (hb0 : 0 ≤ b) (hb1 : b ≤ 4294967295) :
    Calls Try.prog 65 #[.int .u8 2, .int .u32 32, .int .u32 a, .int .u32 b] w fun e w' => e = .returned (.tuple #[.int .u32 (opV .u32 .i32 32 2 a b), .int .i64 0]) ∧ Below w.heap.size w w' := by
  have hmf : ∀ (fn : Fn) (first cap : Array Value) (w : World), (Instr.makeFunc fn first cap).run Try.prog w = .ok (.func fn first cap) w := fun _ _ _ _ => rfl
  have hmm := @run_makeMap Try.prog
  go_enter Try.func65, Try.ntmps65
  go_wp2_with fail
  iterate 13
    rw [upd_last Try.underlying105 Try.underlying38]
    rotate_left
    · simp
    · rfl
    simp only [List.nil_append, List.cons_append, Nat.reduceAdd]
    go_wp2_with fail
  rw [look_hit Try.underlying105 Try.underlying38 _ _ ?lkn _ _ _ 1 (.func (.func 75) #[] #[.pointer (some ⟨w.heap.size + 1, 0, none⟩), .pointer (some ⟨w.heap.size + 1 + 1, 0, none⟩)]) ?lkf]
  case lkn => simp
  case lkf => simp [Instr.findNow, Instr.sameNow]
  go_wp2_with fail
  refine (cu32_2 ⟨w.heap.size + 1, 0, none⟩ ⟨w.heap.size + 1 + 1, 0, none⟩ ⟨w.heap.size, 0, none⟩ a b _ ?_ ?_ ?_ ha0 ha1 hb0 hb1).mono ?_
  · exact (cell4 _ _ _ _ _ _).2.1
  · exact (cell4 _ _ _ _ _ _).2.2
  · exact (cell4 _ _ _ _ _ _).1
  rintro e w1 ⟨rfl, n, rfl⟩
  go_wp2_with fail
  go_ret2
  exact ⟨rfl, below4_u32 _ _ _ _ _ _⟩

set_option maxHeartbeats 1000000 in
theorem do32_3 (a b : Int) (w : World) (ha0 : 0 ≤ a) (ha1 : a ≤ 4294967295) (hb0 : 0 ≤ b) (hb1 : b ≤ 4294967295) :
    Calls Try.prog 65 #[.int .u8 3, .int .u32 32, .int .u32 a, .int .u32 b] w fun e w' => e = .returned (.tuple #[.int .u32 (opV .u32 .i32 32 3 a b), .int .i64 0]) ∧ Below w.heap.size w w' := by
  have hmf : ∀ (fn : Fn) (first cap : Array Value) (w : World), (Instr.makeFunc fn first cap).run Try.prog w = .ok (.func fn first cap) w := fun _ _ _ _ => rfl
  have hmm := @run_makeMap Try.prog
  go_enter Try.func65, Try.ntmps65
  go_wp2_with fail
  iterate 13
    rw [upd_last Try.underlying105 Try.underlying38]
    rotate_left
    · simp
    · rfl
    simp only [List.nil_append, List.cons_append, Nat.reduceAdd]
    go_wp2_with fail
  rw [look_hit Try.underlying105 Try.underlying38 _ _ ?lkn _ _ _ 2 (.func (.func 76) #[] #[.pointer (some ⟨w.heap.size + 1, 0, none⟩), .pointer (some ⟨w.heap.size + 1 + 1, 0, none⟩)]) ?lkf]
  case lkn => simp
  case lkf => simp [Instr.findNow, Instr.sameNow]
  go_wp2_with fail
  refine (cu32_3 ⟨w.heap.size + 1, 0, none⟩ ⟨w.heap.size + 1 + 1, 0, none⟩ ⟨w.heap.size, 0, none⟩ a b _ ?_ ?_ ?_ ha0 ha1 hb0 hb1).mono ?_
  · exact (cell4 _ _ _ _ _ _).2.1
  · exact (cell4 _ _ _ _ _ _).2.2
  · exact (cell4 _ _ _ _ _ _).1
  rintro e w1 ⟨rfl, n, rfl⟩
  go_wp2_with fail
  go_ret2
  exact ⟨rfl, below4_u32 _ _ _ _ _ _⟩

set_option maxHeartbeats 1000000 in
theorem do32_4 (a b : Int) (w : World) (ha0 : 0 ≤ a) (ha1 : a ≤ 4294967295) (hb0 : 0 ≤ b) (hb1 : b ≤ 4294967295) (hb : 1 ≤ b) :
    Calls Try.prog 65 #[.int .u8 4, .int .u32 32, .int .u32 a, .int .u32 b] w fun e w' => e = .returned (.tuple #[.int .u32 (opV .u32 .i32 32 4 a b), .int .i64 0]) ∧ Below w.heap.size w w' := by
  have hbz : (b == 0) = false := beq_eq_false_iff_ne.2 (by omega)
  have hmf : ∀ (fn : Fn) (first cap : Array Value) (w : World), (Instr.makeFunc fn first cap).run Try.prog w = .ok (.func fn first cap) w := fun _ _ _ _ => rfl
  have hmm := @run_makeMap Try.prog
  go_enter Try.func65, Try.ntmps65
  go_wp2_with fail
  iterate 13
    rw [upd_last Try.underlying105 Try.underlying38]
    rotate_left
    · simp
    · rfl
    simp only [List.nil_append, List.cons_append, Nat.reduceAdd]
    go_wp2_with fail
  rw [look_hit Try.underlying105 Try.underlying38 _ _ ?lkn _ _ _ 3 (.func (.func 77) #[] #[.pointer (some ⟨w.heap.size + 1, 0, none⟩), .pointer (some ⟨w.heap.size + 1 + 1, 0, none⟩)]) ?lkf]
  case lkn => simp
  case lkf => simp [Instr.findNow, Instr.sameNow]
  go_wp2_with fail
  refine (cu32_4 ⟨w.heap.size + 1, 0, none⟩ ⟨w.heap.size + 1 + 1, 0, none⟩ ⟨w.heap.size, 0, none⟩ a b _ ?_ ?_ ?_ ha0 ha1 hb0 hb1 hb).mono ?_
  · exact (cell4 _ _ _ _ _ _).2.1
  · exact (cell4 _ _ _ _ _ _).2.2
  · exact (cell4 _ _ _ _ _ _).1
  rintro e w1 ⟨rfl, n, rfl⟩
  go_wp2_with fail
  go_ret2
  exact ⟨rfl, below4_u32 _ _ _ _ _ _⟩

set_option maxHeartbeats 1000000 in
theorem do32_5 (a b : Int) (w : World) (ha0 : 0 ≤ a) (ha1 : a ≤ 4294967295) (hb0 : 0 ≤ b) (hb1 : b ≤ 4294967295) (hb : 1 ≤ b) :
    Calls Try.prog 65 #[.int .u8 5, .int .u32 32, .int .u32 a, .int .u32 b] w fun e w' => e = .returned (.tuple #[.int .u32 (opV .u32 .i32 32 5 a b), .int .i64 0]) ∧ Below w.heap.size w w' := by
  have hbz : (b == 0) = false := beq_eq_false_iff_ne.2 (by omega)
  have hmf : ∀ (fn : Fn) (first cap : Array Value) (w : World), (Instr.makeFunc fn first cap).run Try.prog w = .ok (.func fn first cap) w := fun _ _ _ _ => rfl
  have hmm := @run_makeMap Try.prog
  go_enter Try.func65, Try.ntmps65
  go_wp2_with fail
  iterate 13
    rw [upd_last Try.underlying105 Try.underlying38]
    rotate_left
    · simp
    · rfl
    simp only [List.nil_append, List.cons_append, Nat.reduceAdd]
    go_wp2_with fail
  rw [look_hit Try.underlying105 Try.underlying38 _ _ ?lkn _ _ _ 4 (.func (.func 78) #[] #[.pointer (some ⟨w.heap.size + 1, 0, none⟩), .pointer (some ⟨w.heap.size + 1 + 1, 0, none⟩)]) ?lkf]
  case lkn => simp
  case lkf => simp [Instr.findNow, Instr.sameNow]
  go_wp2_with fail
  refine (cu32_5 ⟨w.heap.size + 1, 0, none⟩ ⟨w.heap.size + 1 + 1, 0, none⟩ ⟨w.heap.size, 0, none⟩ a b _ ?_ ?_ ?_ ha0 ha1 hb0 hb1 hb).mono ?_
  · exact (cell4 _ _ _ _ _ _).2.1
  · exact (cell4 _ _ _ _ _ _).2.2
  · exact (cell4 _ _ _ _ _ _).1
  rintro e w1 ⟨rfl, n, rfl⟩
  go_wp2_with fail
  go_ret2
  exact ⟨rfl, below4_u32 _ _ _ _ _ _⟩

set_option maxHeartbeats 1000000 in
theorem do32_6 (a b : Int) (w : World) (ha0 : 0 ≤ a) (ha1 : a ≤ 4294967295) (hb0 : 0 ≤ b) (hb1 : b ≤ 4294967295) :
    Calls Try.prog 65 #[.int .u8 6, .int .u32 32, .int .u32 a, .int .u32 b] w fun e w' => e = .returned (.tuple #[.int .u32 (opV .u32 .i32 32 6 a b), .int .i64 0]) ∧ Below w.heap.size w w' := by
  have hmf : ∀ (fn : Fn) (first cap : Array Value) (w : World), (Instr.makeFunc fn first cap).run Try.prog w = .ok (.func fn first cap) w := fun _ _ _ _ => rfl
  have hmm := @run_makeMap Try.prog
  go_enter Try.func65, Try.ntmps65
  go_wp2_with fail
  iterate 13
    rw [upd_last Try.underlying105 Try.underlying38]
    rotate_left
    · simp
    · rfl
    simp only [List.nil_append, List.cons_append, Nat.reduceAdd]
    go_wp2_with fail
  rw [look_hit Try.underlying105 Try.underlying38 _ _ ?lkn _ _ _ 5 (.func (.func 79) #[] #[.pointer (some ⟨w.heap.size + 1, 0, none⟩), .pointer (some ⟨w.heap.size + 1 + 1, 0, none⟩)]) ?lkf]
  case lkn => simp
  case lkf => simp [Instr.findNow, Instr.sameNow]
  go_wp2_with fail
  refine (cu32_6 ⟨w.heap.size + 1, 0, none⟩ ⟨w.heap.size + 1 + 1, 0, none⟩ ⟨w.heap.size, 0, none⟩ a b _ ?_ ?_ ?_ ha0 ha1 hb0 hb1).mono ?_
  · exact (cell4 _ _ _ _ _ _).2.1
  · exact (cell4 _ _ _ _ _ _).2.2
  · exact (cell4 _ _ _ _ _ _).1
  rintro e w1 ⟨rfl, n, rfl⟩
  go_wp2_with fail
  go_ret2
  exact ⟨rfl, below4_u32 _ _ _ _ _ _⟩

set_option maxHeartbeats 1000000 in
theorem do32_7 (a b : Int) (w : World) (ha0 : 0 ≤ a) (ha1 : a ≤ 4294967295) (hb0 : 0 ≤ b) (hb1 : b ≤ 4294967295) :
    Calls Try.prog 65 #[.int .u8 7, .int .u32 32, .int .u32 a, .int .u32 b] w fun e w' => e = .returned (.tuple #[.int .u32 (opV .u32 .i32 32 7 a b), .int .i64 0]) ∧ Below w.heap.size w w' := by
  have hmf : ∀ (fn : Fn) (first cap : Array Value) (w : World), (Instr.makeFunc fn first cap).run Try.prog w = .ok (.func fn first cap) w := fun _ _ _ _ => rfl
  have hmm := @run_makeMap Try.prog
  go_enter Try.func65, Try.ntmps65
  go_wp2_with fail
  iterate 13
    rw [upd_last Try.underlying105 Try.underlying38]
    rotate_left
    · simp
    · rfl
    simp only [List.nil_append, List.cons_append, Nat.reduceAdd]
    go_wp2_with fail
  rw [look_hit Try.underlying105 Try.underlying38 _ _ ?lkn _ _ _ 6 (.func (.func 80) #[] #[.pointer (some ⟨w.heap.size + 1, 0, none⟩), .pointer (some ⟨w.heap.size + 1 + 1, 0, none⟩)]) ?lkf]
  case lkn => simp
  case lkf => simp [Instr.findNow, Instr.sameNow]
  go_wp2_with fail
  refine (cu32_7 ⟨w.heap.size + 1, 0, none⟩ ⟨w.heap.size + 1 + 1, 0, none⟩ ⟨w.heap.size, 0, none⟩ a b _ ?_ ?_ ?_ ha0 ha1 hb0 hb1).mono ?_
  · exact (cell4 _ _ _ _ _ _).2.1
  · exact (cell4 _ _ _ _ _ _).2.2
  · exact (cell4 _ _ _ _ _ _).1
  rintro e w1 ⟨rfl, n, rfl⟩
  go_wp2_with fail
  go_ret2
  exact ⟨rfl, below4_u32 _ _ _ _ _ _⟩

set_option maxHeartbeats 1000000 in
theorem do32_8 (a b : Int) (w : World) (ha0 : 0 ≤ a) (ha1 : a ≤ 4294967295) (hb0 : 0 ≤ b) (hb1 : b ≤ 4294967295) :
    Calls Try.prog 65 #[.int .u8 8, .int .u32 32, .int .u32 a, .int .u32 b] w fun e w' => e = .returned (.tuple #[.int .u32 (opV .u32 .i32 32 8 a b), .int .i64 0]) ∧ Below w.heap.size w w' := by
  have hmf : ∀ (fn : Fn) (first cap : Array Value) (w : World), (Instr.makeFunc fn first cap).run Try.prog w = .ok (.func fn first cap) w := fun _ _ _ _ => rfl
  have hmm := @run_makeMap Try.prog
  go_enter Try.func65, Try.ntmps65
  go_wp2_with fail
  iterate 13
    rw [upd_last Try.underlying105 Try.underlying38]
    rotate_left
    · simp
    · rfl
    simp only [List.nil_append, List.cons_append, Nat.reduceAdd]
    go_wp2_with fail
  rw [look_hit Try.underlying105 Try.underlying38 _ _ ?lkn _ _ _ 7 (.func (.func 81) #[] #[.pointer (some ⟨w.heap.size + 1, 0, none⟩), .pointer (some ⟨w.heap.size + 1 + 1, 0, none⟩)]) ?lkf]
  case lkn => simp
  case lkf => simp [Instr.findNow, Instr.sameNow]
  go_wp2_with fail
  refine (cu32_8 ⟨w.heap.size + 1, 0, none⟩ ⟨w.heap.size + 1 + 1, 0, none⟩ ⟨w.heap.size, 0, none⟩ a b _ ?_ ?_ ?_ ha0 ha1 hb0 hb1).mono ?_
  · exact (cell4 _ _ _ _ _ _).2.1
  · exact (cell4 _ _ _ _ _ _).2.2
  · exact (cell4 _ _ _ _ _ _).1
  rintro e w1 ⟨rfl, n, rfl⟩
  go_wp2_with fail
  go_ret2
  exact ⟨rfl, below4_u32 _ _ _ _ _ _⟩

set_option maxHeartbeats 1000000 in
theorem do32_9 (a b : Int) (w : World) (ha0 : 0 ≤ a) (ha1 : a ≤ 4294967295) (hb0 : 0 ≤ b) (hb1 : b ≤ 4294967295) :
    Calls Try.prog 65 #[.int .u8 9, .int .u32 32, .int .u32 a, .int .u32 b] w fun e w' => e = .returned (.tuple #[.int .u32 (opV .u32 .i32 32 9 a b), .int .i64 0]) ∧ Below w.heap.size w w' := by
  have hmf : ∀ (fn : Fn) (first cap : Array Value) (w : World), (Instr.makeFunc fn first cap).run Try.prog w = .ok (.func fn first cap) w := fun _ _ _ _ => rfl
  have hmm := @run_makeMap Try.prog
  go_enter Try.func65, Try.ntmps65
  go_wp2_with fail
  iterate 13
    rw [upd_last Try.underlying105 Try.underlying38]
    rotate_left
    · simp
    · rfl
    simp only [List.nil_append, List.cons_append, Nat.reduceAdd]
    go_wp2_with fail
  rw [look_hit Try.underlying105 Try.underlying38 _ _ ?lkn _ _ _ 8 (.func (.func 82) #[] #[.pointer (some ⟨w.heap.size + 1, 0, none⟩), .pointer (some ⟨w.heap.size + 1 + 1, 0, none⟩), .pointer (some ⟨w.heap.size, 0, none⟩)]) ?lkf]
  case lkn => simp
  case lkf => simp [Instr.findNow, Instr.sameNow]
  go_wp2_with fail
  refine (cu32_9 ⟨w.heap.size + 1, 0, none⟩ ⟨w.heap.size + 1 + 1, 0, none⟩ ⟨w.heap.size, 0, none⟩ a b _ ?_ ?_ ?_ ha0 ha1 hb0 hb1).mono ?_
  · exact (cell4 _ _ _ _ _ _).2.1
  · exact (cell4 _ _ _ _ _ _).2.2
  · exact (cell4 _ _ _ _ _ _).1
  rintro e w1 ⟨rfl, n, rfl⟩
  go_wp2_with fail
  go_ret2
  exact ⟨rfl, below4_u32 _ _ _ _ _ _⟩

set_option maxHeartbeats 1000000 in
theorem do32_10 (a b : Int) (w : World) (ha0 : 0 ≤ a) (ha1 : a ≤ 4294967295) (hb0 : 0 ≤ b) (hb1 : b ≤ 4294967295) :
    Calls Try.prog 65 #[.int .u8 10, .int .u32 32, .int .u32 a, .int .u32 b] w fun e w' => e = .returned (.tuple #[.int .u32 (opV .u32 .i32 32 10 a b), .int .i64 0]) ∧ Below w.heap.size w w' := by
  have hmf : ∀ (fn : Fn) (first cap : Array Value) (w : World), (Instr.makeFunc fn first cap).run Try.prog w = .ok (.func fn first cap) w := fun _ _ _ _ => rfl
  have hmm := @run_makeMap Try.prog
  go_enter Try.func65, Try.ntmps65
  go_wp2_with fail
  iterate 13
    rw [upd_last Try.underlying105 Try.underlying38]
    rotate_left
    · simp
    · rfl
    simp only [List.nil_append, List.cons_append, Nat.reduceAdd]
    go_wp2_with fail
  rw [look_hit Try.underlying105 Try.underlying38 _ _ ?lkn _ _ _ 9 (.func (.func 83) #[] #[.pointer (some ⟨w.heap.size + 1, 0, none⟩), .pointer (some ⟨w.heap.size + 1 + 1, 0, none⟩), .pointer (some ⟨w.heap.size, 0, none⟩)]) ?lkf]
  case lkn => simp
  case lkf => simp [Instr.findNow, Instr.sameNow]
  go_wp2_with fail
  refine (cu32_10 ⟨w.heap.size + 1, 0, none⟩ ⟨w.heap.size + 1 + 1, 0, none⟩ ⟨w.heap.size, 0, none⟩ a b _ ?_ ?_ ?_ ha0 ha1 hb0 hb1).mono ?_
  · exact (cell4 _ _ _ _ _ _).2.1
  · exact (cell4 _ _ _ _ _ _).2.2
  · exact (cell4 _ _ _ _ _ _).1
  rintro e w1 ⟨rfl, n, rfl⟩
  go_wp2_with fail
  go_ret2
  exact ⟨rfl, below4_u32 _ _ _ _ _ _⟩

set_option maxHeartbeats 1000000 in
theorem do32_11 (a b : Int) (w : World) (ha0 : 0 ≤ a) (ha1 : a ≤ 4294967295) (hb0 : 0 ≤ b) (hb1 : b ≤ 4294967295) :
    Calls Try.prog 65 #[.int .u8 11, .int .u32 32, .int .u32 a, .int .u32 b] w fun e w' => e = .returned (.tuple #[.int .u32 (opV .u32 .i32 32 11 a b), .int .i64 0]) ∧ Below w.heap.size w w' := by
  have hmf : ∀ (fn : Fn) (first cap : Array Value) (w : World), (Instr.makeFunc fn first cap).run Try.prog w = .ok (.func fn first cap) w := fun _ _ _ _ => rfl
  have hmm := @run_makeMap Try.prog
  go_enter Try.func65, Try.ntmps65
  go_wp2_with fail
  iterate 13
    rw [upd_last Try.underlying105 Try.underlying38]
    rotate_left
    · simp
    · rfl
    simp only [List.nil_append, List.cons_append, Nat.reduceAdd]
    go_wp2_with fail
  rw [look_hit Try.underlying105 Try.underlying38 _ _ ?lkn _ _ _ 10 (.func (.func 84) #[] #[.pointer (some ⟨w.heap.size + 1, 0, none⟩), .pointer (some ⟨w.heap.size + 1 + 1, 0, none⟩), .pointer (some ⟨w.heap.size, 0, none⟩)]) ?lkf]
  case lkn => simp
  case lkf => simp [Instr.findNow, Instr.sameNow]
  go_wp2_with fail
  refine (cu32_11 ⟨w.heap.size + 1, 0, none⟩ ⟨w.heap.size + 1 + 1, 0, none⟩ ⟨w.heap.size, 0, none⟩ a b _ ?_ ?_ ?_ ha0 ha1 hb0 hb1).mono ?_
  · exact (cell4 _ _ _ _ _ _).2.1
  · exact (cell4 _ _ _ _ _ _).2.2
  · exact (cell4 _ _ _ _ _ _).1
  rintro e w1 ⟨rfl, n, rfl⟩
  go_wp2_with fail
  go_ret2
  exact ⟨rfl, below4_u32 _ _ _ _ _ _⟩

set_option maxHeartbeats 1000000 in
theorem do32_12 (a b : Int) (w : World) (ha0 : 0 ≤ a) (ha1 : a ≤ 4294967295) (hb0 : 0 ≤ b) (hb1 : b ≤ 4294967295) :
    Calls Try.prog 65 #[.int .u8 12, .int .u32 32, .int .u32 a, .int .u32 b] w fun e w' => e = .returned (.tuple #[.int .u32 (opV .u32 .i32 32 12 a b), .int .i64 0]) ∧ Below w.heap.size w w' := by
  have hmf : ∀ (fn : Fn) (first cap : Array Value) (w : World), (Instr.makeFunc fn first cap).run Try.prog w = .ok (.func fn first cap) w := fun _ _ _ _ => rfl
  have hmm := @run_makeMap Try.prog
  go_enter Try.func65, Try.ntmps65
  go_wp2_with fail
  iterate 13
    rw [upd_last Try.underlying105 Try.underlying38]
    rotate_left
    · simp
    · rfl
    simp only [List.nil_append, List.cons_append, Nat.reduceAdd]
    go_wp2_with fail
  rw [look_hit Try.underlying105 Try.underlying38 _ _ ?lkn _ _ _ 11 (.func (.func 85) #[] #[.pointer (some ⟨w.heap.size + 1 + 1, 0, none⟩)]) ?lkf]
  case lkn => simp
  case lkf => simp [Instr.findNow, Instr.sameNow]
  go_wp2_with fail
  refine (cu32_12 ⟨w.heap.size + 1, 0, none⟩ ⟨w.heap.size + 1 + 1, 0, none⟩ ⟨w.heap.size, 0, none⟩ a b _ ?_ ?_ ?_ ha0 ha1 hb0 hb1).mono ?_
  · exact (cell4 _ _ _ _ _ _).2.1
  · exact (cell4 _ _ _ _ _ _).2.2
  · exact (cell4 _ _ _ _ _ _).1
  rintro e w1 ⟨rfl, n, rfl⟩
  go_wp2_with fail
  go_ret2
  exact ⟨rfl, below4_u32 _ _ _ _ _ _⟩

set_option maxHeartbeats 1000000 in
theorem do32_13 (a b : Int) (w : World) (ha0 : 0 ≤ a) (ha1 : a ≤ 4294967295) (hb0 : 0 ≤ b) (hb1 : b ≤ 4294967295) :
    Calls Try.prog 65 #[.int .u8 13, .int .u32 32, .int .u32 a, .int .u32 b] w fun e w' => e = .returned (.tuple #[.int .u32 (opV .u32 .i32 32 13 a b), .int .i64 0]) ∧ Below w.heap.size w w' := by
  have hmf : ∀ (fn : Fn) (first cap : Array Value) (w : World), (Instr.makeFunc fn first cap).run Try.prog w = .ok (.func fn first cap) w := fun _ _ _ _ => rfl
  have hmm := @run_makeMap Try.prog
  go_enter Try.func65, Try.ntmps65
  go_wp2_with fail
  iterate 13
    rw [upd_last Try.underlying105 Try.underlying38]
    rotate_left
    · simp
    · rfl
    simp only [List.nil_append, List.cons_append, Nat.reduceAdd]
    go_wp2_with fail
  rw [look_hit Try.underlying105 Try.underlying38 _ _ ?lkn _ _ _ 12 (.func (.func 86) #[] #[.pointer (some ⟨w.heap.size + 1, 0, none⟩)]) ?lkf]
  case lkn => simp
  case lkf => simp [Instr.findNow, Instr.sameNow]
  go_wp2_with fail
  refine (cu32_13 ⟨w.heap.size + 1, 0, none⟩ ⟨w.heap.size + 1 + 1, 0, none⟩ ⟨w.heap.size, 0, none⟩ a b _ ?_ ?_ ?_ ha0 ha1 hb0 hb1).mono ?_
  · exact (cell4 _ _ _ _ _ _).2.1
  · exact (cell4 _ _ _ _ _ _).2.2
  · exact (cell4 _ _ _ _ _ _).1
  rintro e w1 ⟨rfl, n, rfl⟩
  go_wp2_with fail
  go_ret2
  exact ⟨rfl, below4_u32 _ _ _ _ _ _⟩

theorem do32_z4 (a : Int) (w : World) :
    Calls Try.prog 65 #[.int .u8 4, .int .u32 32, .int .u32 a, .int .u32 0] w fun e w' => e = .returned (.tuple #[.int .u32 0, .int .i64 113]) ∧ Below w.heap.size w w' := by
  go_enter Try.func65, Try.ntmps65
  go_wp2
  go_ret2
  exact ⟨rfl, (((Below.refl _ _).alloc (Nat.le_refl _) _).alloc (by simp) _).alloc (by simp; omega) _⟩

theorem do32_z5 (a : Int) (w : World) :
    Calls Try.prog 65 #[.int .u8 5, .int .u32 32, .int .u32 a, .int .u32 0] w fun e w' => e = .returned (.tuple #[.int .u32 0, .int .i64 113]) ∧ Below w.heap.size w w' := by
  go_enter Try.func65, Try.ntmps65
  go_wp2
  go_ret2
  exact ⟨rfl, (((Below.refl _ _).alloc (Nat.le_refl _) _).alloc (by simp) _).alloc (by simp; omega) _⟩

theorem zero_f32 (w : World) : (zeroValue 103).run Try.prog w = .ok .nilFunc w := by kernel_rfl
set_option maxHeartbeats 1000000 in
theorem do32_no (op a b : Int) (w : World) (h1 : (op == 1) = false) (h2 : (op == 2) = false) (h3 : (op == 3) = false) (h4 : (op == 4) = false) (h5 : (op == 5) = false) (h6 : (op == 6) = false) (h7 : (op == 7) = false) (h8 : (op == 8) = false) (h9 : (op == 9) = false) (h10 : (op == 10) = false) (h11 : (op == 11) = false) (h12 : (op == 12) = false) (h13 : (op == 13) = false) :
    Calls Try.prog 65 #[.int .u8 op, .int .u32 32, .int .u32 a, .int .u32 b] w fun e w' => e = .returned (.tuple #[.int .u32 0, .int .i64 2]) ∧ Below w.heap.size w w' := by
  have hmf : ∀ (fn : Fn) (first cap : Array Value) (w : World), (Instr.makeFunc fn first cap).run Try.prog w = .ok (.func fn first cap) w := fun _ _ _ _ => rfl
  have hmm := @run_makeMap Try.prog
  go_enter Try.func65, Try.ntmps65
  go_wp2_with fail
  iterate 13
    rw [upd_last Try.underlying105 Try.underlying38]
    rotate_left
    · simp
    · rfl
    simp only [List.nil_append, List.cons_append, Nat.reduceAdd]
    go_wp2_with fail
  rw [look_miss Try.underlying105 Try.underlying38 _ _ ?lkn _ _ _ .nilFunc zero_f32 ?lkf]
  case lkn => simp
  case lkf => simp [Instr.findNow, Instr.sameNow, h1, h2, h3, h4, h5, h6, h7, h8, h9, h10, h11, h12, h13]
  go_wp2_with fail
  go_ret2
  exact ⟨rfl, below4_u32 _ _ _ _ _ 0⟩

end Go.Proofs.Ytbfegghkipoppaa
