/- The reference's Do and Is at whatever operator; awake; over this seat's program. -/
import Derived.Test.YtlfgddljmcgggaaRIs
namespace Go.Proofs.Ytlfgddljmcgggaa
open Go.RowKit
set_option linter.unusedVariables false

theorem low_ex (a : Nat) (ha : a < 18446744073709551616) : bits BinOp.and .u64 (a : Int) 4294967295 = ((a % 4294967296 : Nat) : Int) := by
  rw [low_eq _ (by omega) (by omega)]; simp
theorem low_cast (a : Nat) : ((a : Int) % 4294967296) = ((a % 4294967296 : Nat) : Int) := by simp

theorem drew_of {P : Program} {f : FuncId} {args : Array Value} {w : World} {v : Value} (h : Calls P f args w fun e w' => e = .returned v ∧ w = w') :
    Calls P f args w fun e w' => e = .returned v ∧ ∃ n, w' = w.drewN n := h.mono fun _ _ h => ⟨h.1, 0, h.2.symm⟩

theorem rDo_w (op : Int) (a b : Nat) (w : World) (ha : a < 18446744073709551616) (hb : b < 18446744073709551616) :
    Calls Try.prog 10 #[.int .u8 op, .bool false, .int .u64 a, .int .u64 b] w fun e w' => e = .returned (.tuple #[.int .u64 (dVal .u64 .i64 64 op (a : Int) (b : Int)), .int .i64 (dErr op (b : Int))]) ∧ ∃ n, w' = w.drewN n := by
  by_cases h : 1 ≤ op ∧ op ≤ 13
  · have hc : op = 1 ∨ op = 2 ∨ op = 3 ∨ op = 4 ∨ op = 5 ∨ op = 6 ∨ op = 7 ∨ op = 8 ∨ op = 9 ∨ op = 10 ∨ op = 11 ∨ op = 12 ∨ op = 13 := by omega
    rcases hc with rfl | rfl | rfl | rfl | rfl | rfl | rfl | rfl | rfl | rfl | rfl | rfl | rfl
    · have e1 : dErr 1 (b : Int) = 0 := by unfold dErr; rw [if_pos (by omega), if_neg (by omega)]
      have e2 : dVal .u64 .i64 64 1 (a : Int) (b : Int) = opV .u64 .i64 64 1 (a : Int) (b : Int) := by unfold dVal; rw [e1]; simp
      rw [e1, e2]
      exact drew_of (rdo_w_1 a b w ha hb)
    · have e1 : dErr 2 (b : Int) = 0 := by unfold dErr; rw [if_pos (by omega), if_neg (by omega)]
      have e2 : dVal .u64 .i64 64 2 (a : Int) (b : Int) = opV .u64 .i64 64 2 (a : Int) (b : Int) := by unfold dVal; rw [e1]; simp
      rw [e1, e2]
      exact drew_of (rdo_w_2 a b w ha hb)
    · have e1 : dErr 3 (b : Int) = 0 := by unfold dErr; rw [if_pos (by omega), if_neg (by omega)]
      have e2 : dVal .u64 .i64 64 3 (a : Int) (b : Int) = opV .u64 .i64 64 3 (a : Int) (b : Int) := by unfold dVal; rw [e1]; simp
      rw [e1, e2]
      exact drew_of (rdo_w_3 a b w ha hb)
    · by_cases hz : b = 0
      · have e1 : dErr 4 (b : Int) = 113 := by rw [hz]; decide
        have e2 : dVal .u64 .i64 64 4 (a : Int) (b : Int) = 0 := by unfold dVal; rw [e1]; simp
        rw [e1, e2]
        exact drew_of (rdo_w_z4 a b w ha hb hz)
      · have e1 : dErr 4 (b : Int) = 0 := by
          have h0 : ¬ (b : Int) = 0 := by omega
          unfold dErr; rw [if_pos (by omega), if_neg (fun h => h0 h.2)]
        have e2 : dVal .u64 .i64 64 4 (a : Int) (b : Int) = opV .u64 .i64 64 4 (a : Int) (b : Int) := by unfold dVal; rw [e1]; simp
        rw [e1, e2]
        exact drew_of (rdo_w_4 a b w ha hb (by omega))
    · by_cases hz : b = 0
      · have e1 : dErr 5 (b : Int) = 113 := by rw [hz]; decide
        have e2 : dVal .u64 .i64 64 5 (a : Int) (b : Int) = 0 := by unfold dVal; rw [e1]; simp
        rw [e1, e2]
        exact drew_of (rdo_w_z5 a b w ha hb hz)
      · have e1 : dErr 5 (b : Int) = 0 := by
          have h0 : ¬ (b : Int) = 0 := by omega
          unfold dErr; rw [if_pos (by omega), if_neg (fun h => h0 h.2)]
        have e2 : dVal .u64 .i64 64 5 (a : Int) (b : Int) = opV .u64 .i64 64 5 (a : Int) (b : Int) := by unfold dVal; rw [e1]; simp
        rw [e1, e2]
        exact drew_of (rdo_w_5 a b w ha hb (by omega))
    · have e1 : dErr 6 (b : Int) = 0 := by unfold dErr; rw [if_pos (by omega), if_neg (by omega)]
      have e2 : dVal .u64 .i64 64 6 (a : Int) (b : Int) = opV .u64 .i64 64 6 (a : Int) (b : Int) := by unfold dVal; rw [e1]; simp
      rw [e1, e2]
      exact drew_of (rdo_w_6 a b w ha hb)
    · have e1 : dErr 7 (b : Int) = 0 := by unfold dErr; rw [if_pos (by omega), if_neg (by omega)]
      have e2 : dVal .u64 .i64 64 7 (a : Int) (b : Int) = opV .u64 .i64 64 7 (a : Int) (b : Int) := by unfold dVal; rw [e1]; simp
      rw [e1, e2]
      exact drew_of (rdo_w_7 a b w ha hb)
    · have e1 : dErr 8 (b : Int) = 0 := by unfold dErr; rw [if_pos (by omega), if_neg (by omega)]
      have e2 : dVal .u64 .i64 64 8 (a : Int) (b : Int) = opV .u64 .i64 64 8 (a : Int) (b : Int) := by unfold dVal; rw [e1]; simp
      rw [e1, e2]
      exact drew_of (rdo_w_8 a b w ha hb)
    · have e1 : dErr 9 (b : Int) = 0 := by unfold dErr; rw [if_pos (by omega), if_neg (by omega)]
      have e2 : dVal .u64 .i64 64 9 (a : Int) (b : Int) = opV .u64 .i64 64 9 (a : Int) (b : Int) := by unfold dVal; rw [e1]; simp
      rw [e1, e2]
      exact drew_of (rdo_w_9 a b w ha hb)
    · have e1 : dErr 10 (b : Int) = 0 := by unfold dErr; rw [if_pos (by omega), if_neg (by omega)]
      have e2 : dVal .u64 .i64 64 10 (a : Int) (b : Int) = opV .u64 .i64 64 10 (a : Int) (b : Int) := by unfold dVal; rw [e1]; simp
      rw [e1, e2]
      exact drew_of (rdo_w_10 a b w ha hb)
    · have e1 : dErr 11 (b : Int) = 0 := by unfold dErr; rw [if_pos (by omega), if_neg (by omega)]
      have e2 : dVal .u64 .i64 64 11 (a : Int) (b : Int) = opV .u64 .i64 64 11 (a : Int) (b : Int) := by unfold dVal; rw [e1]; simp
      rw [e1, e2]
      exact (rdo_w_11 a b w ha hb).mono fun _ _ h => ⟨h.1, let ⟨n, e⟩ := h.2; ⟨n, e.symm⟩⟩
    · have e1 : dErr 12 (b : Int) = 0 := by unfold dErr; rw [if_pos (by omega), if_neg (by omega)]
      have e2 : dVal .u64 .i64 64 12 (a : Int) (b : Int) = opV .u64 .i64 64 12 (a : Int) (b : Int) := by unfold dVal; rw [e1]; simp
      rw [e1, e2]
      exact drew_of (rdo_w_12 a b w ha hb)
    · have e1 : dErr 13 (b : Int) = 0 := by unfold dErr; rw [if_pos (by omega), if_neg (by omega)]
      have e2 : dVal .u64 .i64 64 13 (a : Int) (b : Int) = opV .u64 .i64 64 13 (a : Int) (b : Int) := by unfold dVal; rw [e1]; simp
      rw [e1, e2]
      exact drew_of (rdo_w_13 a b w ha hb)
  · have e1 : dErr op (b : Int) = 2 := by unfold dErr; rw [if_neg h]
    have e2 : dVal .u64 .i64 64 op (a : Int) (b : Int) = 0 := by unfold dVal; rw [e1]; simp
    rw [e1, e2]
    exact drew_of (rdo_w_no op a b w ha hb (beq_eq_false_iff_ne.2 (by omega)) (beq_eq_false_iff_ne.2 (by omega)) (beq_eq_false_iff_ne.2 (by omega)) (beq_eq_false_iff_ne.2 (by omega)) (beq_eq_false_iff_ne.2 (by omega)) (beq_eq_false_iff_ne.2 (by omega)) (beq_eq_false_iff_ne.2 (by omega)) (beq_eq_false_iff_ne.2 (by omega)) (beq_eq_false_iff_ne.2 (by omega)) (beq_eq_false_iff_ne.2 (by omega)) (beq_eq_false_iff_ne.2 (by omega)) (beq_eq_false_iff_ne.2 (by omega)) (beq_eq_false_iff_ne.2 (by omega)))

theorem rIs_w (op : Int) (a b : Nat) (w : World) (h0 : 0 ≤ op) (ha : a < 18446744073709551616) (hb : b < 18446744073709551616) :
    Calls Try.prog 12 #[.int .u8 op, .bool false, .int .u64 a, .int .u64 b] w fun e w' => e = .returned (.tuple #[.bool (isV .u64 .i64 op.toNat (a : Int) (b : Int)), .int .i64 (isE op)]) ∧ w = w' := by
  by_cases h : 17 ≤ op ∧ op ≤ 27
  · have hc : op = 17 ∨ op = 18 ∨ op = 19 ∨ op = 20 ∨ op = 21 ∨ op = 22 ∨ op = 23 ∨ op = 24 ∨ op = 25 ∨ op = 26 ∨ op = 27 := by omega
    rcases hc with rfl | rfl | rfl | rfl | rfl | rfl | rfl | rfl | rfl | rfl | rfl
    · rw [show isE 17 = 0 by decide]
      exact ris_w_17 a b w ha hb
    · rw [show isE 18 = 0 by decide]
      exact ris_w_18 a b w ha hb
    · rw [show isE 19 = 0 by decide]
      exact ris_w_19 a b w ha hb
    · rw [show isE 20 = 0 by decide]
      exact ris_w_20 a b w ha hb
    · rw [show isE 21 = 0 by decide]
      exact ris_w_21 a b w ha hb
    · rw [show isE 22 = 0 by decide]
      exact ris_w_22 a b w ha hb
    · rw [show isE 23 = 0 by decide]
      exact ris_w_23 a b w ha hb
    · rw [show isE 24 = 0 by decide]
      exact ris_w_24 a b w ha hb
    · rw [show isE 25 = 0 by decide]
      exact ris_w_25 a b w ha hb
    · rw [show isE 26 = 0 by decide]
      exact ris_w_26 a b w ha hb
    · rw [show isE 27 = 0 by decide]
      exact ris_w_27 a b w ha hb
  · have e1 : isE op = 2 := by simp [isE, h]
    have e2 : isV .u64 .i64 op.toNat (a : Int) (b : Int) = false := by
      obtain ⟨n, rfl⟩ := Int.eq_ofNat_of_zero_le h0
      unfold isV
      split <;> first | rfl | (exfalso; simp_all)
    rw [e1, e2]
    exact ris_w_no op a b w ha hb (by omega) (beq_eq_false_iff_ne.2 (by omega)) (beq_eq_false_iff_ne.2 (by omega)) (beq_eq_false_iff_ne.2 (by omega)) (beq_eq_false_iff_ne.2 (by omega)) (beq_eq_false_iff_ne.2 (by omega)) (beq_eq_false_iff_ne.2 (by omega)) (beq_eq_false_iff_ne.2 (by omega)) (beq_eq_false_iff_ne.2 (by omega)) (beq_eq_false_iff_ne.2 (by omega)) (beq_eq_false_iff_ne.2 (by omega)) (beq_eq_false_iff_ne.2 (by omega))

theorem rDo_n (op : Int) (a b : Nat) (w : World) (ha : a < 18446744073709551616) (hb : b < 18446744073709551616) :
    Calls Try.prog 10 #[.int .u8 op, .bool true, .int .u64 a, .int .u64 b] w fun e w' => e = .returned (.tuple #[.int .u64 (dVal .u32 .i32 32 op ((a % 4294967296 : Nat) : Int) ((b % 4294967296 : Nat) : Int)), .int .i64 (dErr op ((b % 4294967296 : Nat) : Int))]) ∧ ∃ n, w' = w.drewN n := by
  by_cases h : 1 ≤ op ∧ op ≤ 13
  · have hc : op = 1 ∨ op = 2 ∨ op = 3 ∨ op = 4 ∨ op = 5 ∨ op = 6 ∨ op = 7 ∨ op = 8 ∨ op = 9 ∨ op = 10 ∨ op = 11 ∨ op = 12 ∨ op = 13 := by omega
    rcases hc with rfl | rfl | rfl | rfl | rfl | rfl | rfl | rfl | rfl | rfl | rfl | rfl | rfl
    · have e1 : dErr 1 ((b % 4294967296 : Nat) : Int) = 0 := by unfold dErr; rw [if_pos (by omega), if_neg (by omega)]
      have e2 : dVal .u32 .i32 32 1 ((a % 4294967296 : Nat) : Int) ((b % 4294967296 : Nat) : Int) = opV .u32 .i32 32 1 ((a % 4294967296 : Nat) : Int) ((b % 4294967296 : Nat) : Int) := by unfold dVal; rw [e1]; simp
      rw [e1, e2]
      exact drew_of (rdo_n_1 a b (a % 4294967296) (b % 4294967296) w ha hb (low_ex a ha) (Nat.mod_lt _ (by omega)) (low_ex b hb) (Nat.mod_lt _ (by omega)))
    · have e1 : dErr 2 ((b % 4294967296 : Nat) : Int) = 0 := by unfold dErr; rw [if_pos (by omega), if_neg (by omega)]
      have e2 : dVal .u32 .i32 32 2 ((a % 4294967296 : Nat) : Int) ((b % 4294967296 : Nat) : Int) = opV .u32 .i32 32 2 ((a % 4294967296 : Nat) : Int) ((b % 4294967296 : Nat) : Int) := by unfold dVal; rw [e1]; simp
      rw [e1, e2]
      exact drew_of (rdo_n_2 a b (a % 4294967296) (b % 4294967296) w ha hb (low_ex a ha) (Nat.mod_lt _ (by omega)) (low_ex b hb) (Nat.mod_lt _ (by omega)))
    · have e1 : dErr 3 ((b % 4294967296 : Nat) : Int) = 0 := by unfold dErr; rw [if_pos (by omega), if_neg (by omega)]
      have e2 : dVal .u32 .i32 32 3 ((a % 4294967296 : Nat) : Int) ((b % 4294967296 : Nat) : Int) = opV .u32 .i32 32 3 ((a % 4294967296 : Nat) : Int) ((b % 4294967296 : Nat) : Int) := by unfold dVal; rw [e1]; simp
      rw [e1, e2]
      exact drew_of (rdo_n_3 a b (a % 4294967296) (b % 4294967296) w ha hb (low_ex a ha) (Nat.mod_lt _ (by omega)) (low_ex b hb) (Nat.mod_lt _ (by omega)))
    · by_cases hz : (b % 4294967296) = 0
      · have e1 : dErr 4 ((b % 4294967296 : Nat) : Int) = 113 := by rw [hz]; decide
        have e2 : dVal .u32 .i32 32 4 ((a % 4294967296 : Nat) : Int) ((b % 4294967296 : Nat) : Int) = 0 := by unfold dVal; rw [e1]; simp
        rw [e1, e2]
        exact drew_of (rdo_n_z4 a b (a % 4294967296) (b % 4294967296) w ha hb (low_ex a ha) (Nat.mod_lt _ (by omega)) (low_ex b hb) (Nat.mod_lt _ (by omega)) hz)
      · have e1 : dErr 4 ((b % 4294967296 : Nat) : Int) = 0 := by
          have h0 : ¬ ((b % 4294967296 : Nat) : Int) = 0 := by omega
          unfold dErr; rw [if_pos (by omega), if_neg (fun h => h0 h.2)]
        have e2 : dVal .u32 .i32 32 4 ((a % 4294967296 : Nat) : Int) ((b % 4294967296 : Nat) : Int) = opV .u32 .i32 32 4 ((a % 4294967296 : Nat) : Int) ((b % 4294967296 : Nat) : Int) := by unfold dVal; rw [e1]; simp
        rw [e1, e2]
        exact drew_of (rdo_n_4 a b (a % 4294967296) (b % 4294967296) w ha hb (low_ex a ha) (Nat.mod_lt _ (by omega)) (low_ex b hb) (Nat.mod_lt _ (by omega)) (by omega))
    · by_cases hz : (b % 4294967296) = 0
      · have e1 : dErr 5 ((b % 4294967296 : Nat) : Int) = 113 := by rw [hz]; decide
        have e2 : dVal .u32 .i32 32 5 ((a % 4294967296 : Nat) : Int) ((b % 4294967296 : Nat) : Int) = 0 := by unfold dVal; rw [e1]; simp
        rw [e1, e2]
        exact drew_of (rdo_n_z5 a b (a % 4294967296) (b % 4294967296) w ha hb (low_ex a ha) (Nat.mod_lt _ (by omega)) (low_ex b hb) (Nat.mod_lt _ (by omega)) hz)
      · have e1 : dErr 5 ((b % 4294967296 : Nat) : Int) = 0 := by
          have h0 : ¬ ((b % 4294967296 : Nat) : Int) = 0 := by omega
          unfold dErr; rw [if_pos (by omega), if_neg (fun h => h0 h.2)]
        have e2 : dVal .u32 .i32 32 5 ((a % 4294967296 : Nat) : Int) ((b % 4294967296 : Nat) : Int) = opV .u32 .i32 32 5 ((a % 4294967296 : Nat) : Int) ((b % 4294967296 : Nat) : Int) := by unfold dVal; rw [e1]; simp
        rw [e1, e2]
        exact drew_of (rdo_n_5 a b (a % 4294967296) (b % 4294967296) w ha hb (low_ex a ha) (Nat.mod_lt _ (by omega)) (low_ex b hb) (Nat.mod_lt _ (by omega)) (by omega))
    · have e1 : dErr 6 ((b % 4294967296 : Nat) : Int) = 0 := by unfold dErr; rw [if_pos (by omega), if_neg (by omega)]
      have e2 : dVal .u32 .i32 32 6 ((a % 4294967296 : Nat) : Int) ((b % 4294967296 : Nat) : Int) = opV .u32 .i32 32 6 ((a % 4294967296 : Nat) : Int) ((b % 4294967296 : Nat) : Int) := by unfold dVal; rw [e1]; simp
      rw [e1, e2]
      exact drew_of (rdo_n_6 a b (a % 4294967296) (b % 4294967296) w ha hb (low_ex a ha) (Nat.mod_lt _ (by omega)) (low_ex b hb) (Nat.mod_lt _ (by omega)))
    · have e1 : dErr 7 ((b % 4294967296 : Nat) : Int) = 0 := by unfold dErr; rw [if_pos (by omega), if_neg (by omega)]
      have e2 : dVal .u32 .i32 32 7 ((a % 4294967296 : Nat) : Int) ((b % 4294967296 : Nat) : Int) = opV .u32 .i32 32 7 ((a % 4294967296 : Nat) : Int) ((b % 4294967296 : Nat) : Int) := by unfold dVal; rw [e1]; simp
      rw [e1, e2]
      exact drew_of (rdo_n_7 a b (a % 4294967296) (b % 4294967296) w ha hb (low_ex a ha) (Nat.mod_lt _ (by omega)) (low_ex b hb) (Nat.mod_lt _ (by omega)))
    · have e1 : dErr 8 ((b % 4294967296 : Nat) : Int) = 0 := by unfold dErr; rw [if_pos (by omega), if_neg (by omega)]
      have e2 : dVal .u32 .i32 32 8 ((a % 4294967296 : Nat) : Int) ((b % 4294967296 : Nat) : Int) = opV .u32 .i32 32 8 ((a % 4294967296 : Nat) : Int) ((b % 4294967296 : Nat) : Int) := by unfold dVal; rw [e1]; simp
      rw [e1, e2]
      exact drew_of (rdo_n_8 a b (a % 4294967296) (b % 4294967296) w ha hb (low_ex a ha) (Nat.mod_lt _ (by omega)) (low_ex b hb) (Nat.mod_lt _ (by omega)))
    · have e1 : dErr 9 ((b % 4294967296 : Nat) : Int) = 0 := by unfold dErr; rw [if_pos (by omega), if_neg (by omega)]
      have e2 : dVal .u32 .i32 32 9 ((a % 4294967296 : Nat) : Int) ((b % 4294967296 : Nat) : Int) = opV .u32 .i32 32 9 ((a % 4294967296 : Nat) : Int) ((b % 4294967296 : Nat) : Int) := by unfold dVal; rw [e1]; simp
      rw [e1, e2]
      exact drew_of (rdo_n_9 a b (a % 4294967296) (b % 4294967296) w ha hb (low_ex a ha) (Nat.mod_lt _ (by omega)) (low_ex b hb) (Nat.mod_lt _ (by omega)))
    · have e1 : dErr 10 ((b % 4294967296 : Nat) : Int) = 0 := by unfold dErr; rw [if_pos (by omega), if_neg (by omega)]
      have e2 : dVal .u32 .i32 32 10 ((a % 4294967296 : Nat) : Int) ((b % 4294967296 : Nat) : Int) = opV .u32 .i32 32 10 ((a % 4294967296 : Nat) : Int) ((b % 4294967296 : Nat) : Int) := by unfold dVal; rw [e1]; simp
      rw [e1, e2]
      exact drew_of (rdo_n_10 a b (a % 4294967296) (b % 4294967296) w ha hb (low_ex a ha) (Nat.mod_lt _ (by omega)) (low_ex b hb) (Nat.mod_lt _ (by omega)))
    · have e1 : dErr 11 ((b % 4294967296 : Nat) : Int) = 0 := by unfold dErr; rw [if_pos (by omega), if_neg (by omega)]
      have e2 : dVal .u32 .i32 32 11 ((a % 4294967296 : Nat) : Int) ((b % 4294967296 : Nat) : Int) = opV .u32 .i32 32 11 ((a % 4294967296 : Nat) : Int) ((b % 4294967296 : Nat) : Int) := by unfold dVal; rw [e1]; simp
      rw [e1, e2]
      exact (rdo_n_11 a b (a % 4294967296) (b % 4294967296) w ha hb (low_ex a ha) (Nat.mod_lt _ (by omega)) (low_ex b hb) (Nat.mod_lt _ (by omega))).mono fun _ _ h => ⟨h.1, let ⟨n, e⟩ := h.2; ⟨n, e.symm⟩⟩
    · have e1 : dErr 12 ((b % 4294967296 : Nat) : Int) = 0 := by unfold dErr; rw [if_pos (by omega), if_neg (by omega)]
      have e2 : dVal .u32 .i32 32 12 ((a % 4294967296 : Nat) : Int) ((b % 4294967296 : Nat) : Int) = opV .u32 .i32 32 12 ((a % 4294967296 : Nat) : Int) ((b % 4294967296 : Nat) : Int) := by unfold dVal; rw [e1]; simp
      rw [e1, e2]
      exact drew_of (rdo_n_12 a b (a % 4294967296) (b % 4294967296) w ha hb (low_ex a ha) (Nat.mod_lt _ (by omega)) (low_ex b hb) (Nat.mod_lt _ (by omega)))
    · have e1 : dErr 13 ((b % 4294967296 : Nat) : Int) = 0 := by unfold dErr; rw [if_pos (by omega), if_neg (by omega)]
      have e2 : dVal .u32 .i32 32 13 ((a % 4294967296 : Nat) : Int) ((b % 4294967296 : Nat) : Int) = opV .u32 .i32 32 13 ((a % 4294967296 : Nat) : Int) ((b % 4294967296 : Nat) : Int) := by unfold dVal; rw [e1]; simp
      rw [e1, e2]
      exact drew_of (rdo_n_13 a b (a % 4294967296) (b % 4294967296) w ha hb (low_ex a ha) (Nat.mod_lt _ (by omega)) (low_ex b hb) (Nat.mod_lt _ (by omega)))
  · have e1 : dErr op ((b % 4294967296 : Nat) : Int) = 2 := by unfold dErr; rw [if_neg h]
    have e2 : dVal .u32 .i32 32 op ((a % 4294967296 : Nat) : Int) ((b % 4294967296 : Nat) : Int) = 0 := by unfold dVal; rw [e1]; simp
    rw [e1, e2]
    exact drew_of (rdo_n_no op a b (a % 4294967296) (b % 4294967296) w ha hb (low_ex a ha) (Nat.mod_lt _ (by omega)) (low_ex b hb) (Nat.mod_lt _ (by omega)) (beq_eq_false_iff_ne.2 (by omega)) (beq_eq_false_iff_ne.2 (by omega)) (beq_eq_false_iff_ne.2 (by omega)) (beq_eq_false_iff_ne.2 (by omega)) (beq_eq_false_iff_ne.2 (by omega)) (beq_eq_false_iff_ne.2 (by omega)) (beq_eq_false_iff_ne.2 (by omega)) (beq_eq_false_iff_ne.2 (by omega)) (beq_eq_false_iff_ne.2 (by omega)) (beq_eq_false_iff_ne.2 (by omega)) (beq_eq_false_iff_ne.2 (by omega)) (beq_eq_false_iff_ne.2 (by omega)) (beq_eq_false_iff_ne.2 (by omega)))

theorem rIs_n (op : Int) (a b : Nat) (w : World) (h0 : 0 ≤ op) (ha : a < 18446744073709551616) (hb : b < 18446744073709551616) :
    Calls Try.prog 12 #[.int .u8 op, .bool true, .int .u64 a, .int .u64 b] w fun e w' => e = .returned (.tuple #[.bool (isV .u32 .i32 op.toNat ((a % 4294967296 : Nat) : Int) ((b % 4294967296 : Nat) : Int)), .int .i64 (isE op)]) ∧ w = w' := by
  by_cases h : 17 ≤ op ∧ op ≤ 27
  · have hc : op = 17 ∨ op = 18 ∨ op = 19 ∨ op = 20 ∨ op = 21 ∨ op = 22 ∨ op = 23 ∨ op = 24 ∨ op = 25 ∨ op = 26 ∨ op = 27 := by omega
    rcases hc with rfl | rfl | rfl | rfl | rfl | rfl | rfl | rfl | rfl | rfl | rfl
    · rw [show isE 17 = 0 by decide]
      exact ris_n_17 a b (a % 4294967296) (b % 4294967296) w ha hb (low_ex a ha) (Nat.mod_lt _ (by omega)) (low_ex b hb) (Nat.mod_lt _ (by omega))
    · rw [show isE 18 = 0 by decide]
      exact ris_n_18 a b (a % 4294967296) (b % 4294967296) w ha hb (low_ex a ha) (Nat.mod_lt _ (by omega)) (low_ex b hb) (Nat.mod_lt _ (by omega))
    · rw [show isE 19 = 0 by decide]
      exact ris_n_19 a b (a % 4294967296) (b % 4294967296) w ha hb (low_ex a ha) (Nat.mod_lt _ (by omega)) (low_ex b hb) (Nat.mod_lt _ (by omega))
    · rw [show isE 20 = 0 by decide]
      exact ris_n_20 a b (a % 4294967296) (b % 4294967296) w ha hb (low_ex a ha) (Nat.mod_lt _ (by omega)) (low_ex b hb) (Nat.mod_lt _ (by omega))
    · rw [show isE 21 = 0 by decide]
      exact ris_n_21 a b (a % 4294967296) (b % 4294967296) w ha hb (low_ex a ha) (Nat.mod_lt _ (by omega)) (low_ex b hb) (Nat.mod_lt _ (by omega))
    · rw [show isE 22 = 0 by decide]
      exact ris_n_22 a b (a % 4294967296) (b % 4294967296) w ha hb (low_ex a ha) (Nat.mod_lt _ (by omega)) (low_ex b hb) (Nat.mod_lt _ (by omega))
    · rw [show isE 23 = 0 by decide]
      exact ris_n_23 a b (a % 4294967296) (b % 4294967296) w ha hb (low_ex a ha) (Nat.mod_lt _ (by omega)) (low_ex b hb) (Nat.mod_lt _ (by omega))
    · rw [show isE 24 = 0 by decide]
      exact ris_n_24 a b (a % 4294967296) (b % 4294967296) w ha hb (low_ex a ha) (Nat.mod_lt _ (by omega)) (low_ex b hb) (Nat.mod_lt _ (by omega))
    · rw [show isE 25 = 0 by decide]
      exact ris_n_25 a b (a % 4294967296) (b % 4294967296) w ha hb (low_ex a ha) (Nat.mod_lt _ (by omega)) (low_ex b hb) (Nat.mod_lt _ (by omega))
    · rw [show isE 26 = 0 by decide]
      exact ris_n_26 a b (a % 4294967296) (b % 4294967296) w ha hb (low_ex a ha) (Nat.mod_lt _ (by omega)) (low_ex b hb) (Nat.mod_lt _ (by omega))
    · rw [show isE 27 = 0 by decide]
      exact ris_n_27 a b (a % 4294967296) (b % 4294967296) w ha hb (low_ex a ha) (Nat.mod_lt _ (by omega)) (low_ex b hb) (Nat.mod_lt _ (by omega))
  · have e1 : isE op = 2 := by simp [isE, h]
    have e2 : isV .u32 .i32 op.toNat ((a % 4294967296 : Nat) : Int) ((b % 4294967296 : Nat) : Int) = false := by
      obtain ⟨n, rfl⟩ := Int.eq_ofNat_of_zero_le h0
      unfold isV
      split <;> first | rfl | (exfalso; simp_all)
    rw [e1, e2]
    exact ris_n_no op a b (a % 4294967296) (b % 4294967296) w ha hb (low_ex a ha) (Nat.mod_lt _ (by omega)) (low_ex b hb) (Nat.mod_lt _ (by omega)) (by omega) (beq_eq_false_iff_ne.2 (by omega)) (beq_eq_false_iff_ne.2 (by omega)) (beq_eq_false_iff_ne.2 (by omega)) (beq_eq_false_iff_ne.2 (by omega)) (beq_eq_false_iff_ne.2 (by omega)) (beq_eq_false_iff_ne.2 (by omega)) (beq_eq_false_iff_ne.2 (by omega)) (beq_eq_false_iff_ne.2 (by omega)) (beq_eq_false_iff_ne.2 (by omega)) (beq_eq_false_iff_ne.2 (by omega)) (beq_eq_false_iff_ne.2 (by omega))


theorem rDo_any (nar : Bool) (op : Int) (a b : Nat) (w : World) (ha : a < 18446744073709551616) (hb : b < 18446744073709551616) :
    Calls Try.prog 10 #[.int .u8 op, .bool nar, .int .u64 a, .int .u64 b] w fun e w' => e = .returned (.tuple #[.int .u64 (DoV nar op a b), .int .i64 (DoE nar op b)]) ∧ ∃ n, w' = w.drewN n := by
  cases nar with
  | true =>
    have h := rDo_n op a b w ha hb
    rw [← low_cast, ← low_cast] at h
    exact h
  | false => exact rDo_w op a b w ha hb
theorem rIs_any (nar : Bool) (op : Int) (a b : Nat) (w : World) (h0 : 0 ≤ op) (ha : a < 18446744073709551616) (hb : b < 18446744073709551616) :
    Calls Try.prog 12 #[.int .u8 op, .bool nar, .int .u64 a, .int .u64 b] w fun e w' => e = .returned (.tuple #[.bool (IsV nar op a b), .int .i64 (isE op)]) ∧ w = w' := by
  cases nar with
  | true =>
    have h := rIs_n op a b w h0 ha hb
    rw [← low_cast, ← low_cast] at h
    exact h
  | false => exact rIs_w op a b w h0 ha hb

end Go.Proofs.Ytlfgddljmcgggaa
