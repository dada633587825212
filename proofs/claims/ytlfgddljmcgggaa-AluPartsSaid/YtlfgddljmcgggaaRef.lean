/- The reference's bit, each, moved (barbicanref01), over this seat's program. -/
import Derived.Test.YtlfgddljmcgggaaAlu
import Derived.Test.YtlfgddljmcgggaaBits
namespace Go.Proofs.Ytlfgddljmcgggaa
open Go.RowKit
set_option linter.unusedVariables false

theorem bit_eq (n k : Nat) (hn : n < 18446744073709551616) : (bits BinOp.and .u64 ((n : Int) / 2 ^ k) 1 == 1) = n.testBit k := by
  have e : (n : Int) / 2 ^ k = ((n / 2 ^ k : Nat) : Int) := by simp
  have hlt : n / 2 ^ k < 18446744073709551616 := Nat.lt_of_le_of_lt (Nat.div_le_self _ _) hn
  rw [e, show (1 : Int) = ((1 : Nat) : Int) by rfl, u64_and_nat _ _ hlt (by omega), Nat.and_one_is_mod, Nat.testBit_eq_decide_div_mod_eq]
  rw [Bool.eq_iff_iff]
  simp
  omega
theorem bit_any (n k : Nat) (w : World) (hn : n < 18446744073709551616) (hk : k < 64) :
    Calls Try.prog 19 #[.int .u64 n, .int .i64 k] w fun e w' => e = .returned (.bool (n.testBit k)) ∧ w = w' := by
  have HB := Lib.hid (bit_eq n k hn)
  go_enter Try.func19, Try.ntmps19
  go_wp2
  go_ret
  refine ⟨?_, rfl⟩
  rw [← HB.out]
  rfl

theorem or_pow (x k : Nat) (hx : x < 2 ^ k) (hk : k < 64) : bits BinOp.or .u64 (x : Int) (IntKind.u64.wrap (2 ^ k)) = ((x ||| 2 ^ k : Nat) : Int) := by
  have h1 : 2 ^ k < 18446744073709551616 := Nat.pow_lt_pow_right (n := 64) (by omega) hk
  have e : IntKind.u64.wrap (2 ^ k) = ((2 ^ k : Nat) : Int) := by
    rw [IntKind.wrap_u64, show ((2 : Int) ^ k) = ((2 ^ k : Nat) : Int) by simp]
    omega
  rw [e, u64_or_nat _ _ (by omega) h1]

/-- What each does with two bits. -/
def eachBit (op : Int) (x y : Bool) : Bool := if op = 7 then x || y else if op = 8 then x != y else x && y

set_option maxHeartbeats 400000 in
theorem each_any (op : Int) (a b : Nat) (w : World) (hop : op = 6 ∨ op = 7 ∨ op = 8) (ha : a < 18446744073709551616) (hb : b < 18446744073709551616) :
    Calls Try.prog 17 #[.int .u8 op, .int .u64 a, .int .u64 b] w fun e w' => e = .returned (.int .u64 ((gather (fun j => eachBit op (a.testBit j) (b.testBit j)) 64 : Nat) : Int)) ∧ w = w' := by
  obtain ⟨G, hG⟩ : ∃ G : Nat → Nat, G = fun n => gather (fun j => eachBit op (a.testBit j) (b.testBit j)) n := ⟨_, rfl⟩
  have HG : Hid (∀ n, G (n + 1) = if eachBit op (a.testBit n) (b.testBit n) then G n ||| 2 ^ n else G n) := Lib.hid (fun n => by rw [hG]; rfl)
  have HL : Hid (∀ n, G n < 2 ^ n) := Lib.hid (fun n => by rw [hG]; exact gather_lt _ n)
  have HE : Hid (gather (fun j => eachBit op (a.testBit j) (b.testBit j)) 64 = G 64) := Lib.hid (by rw [hG])
  have H0 : G 0 = 0 := by rw [hG]; rfl
  rw [HE.out]
  clear hG HE
  rcases hop with rfl | rfl | rfl
  all_goals
    have HZ := Lib.hid H0
    clear H0
    go_enter Try.func17, Try.ntmps17
    go_wp2_with fail
    go_loop [7, 8] (fun n i => ∃ k : Nat, k ≤ 64 ∧ i = .int .i64 k ∧ n = .int .u64 (G k : Int)) (fun _ i => 64 - (intOf i).toNat)
    case atStart => exact ⟨0, by omega, rfl, by rw [HZ.out]; rfl⟩
    case round =>
      obtain ⟨k, hk, rfl, rfl⟩ := hrel
      by_cases hlt : k < 64
      · have hs := HG.out k
        have hl := HL.out k
        have HO := Lib.hid (or_pow (G k) k hl hlt)
        have HS := Lib.hid hs
        clear hs hl
        go_wp2_with fail
        refine (bit_any a k _ ha hlt).mono ?_
        rintro e w1 ⟨rfl, rfl⟩
        go_wp2_with fail
        refine (bit_any b k _ hb hlt).mono ?_
        rintro e w1 ⟨rfl, rfl⟩
        cases hx : a.testBit k <;> cases hy : b.testBit k
        all_goals
          have HS2 := HS.out
          rw [hx, hy] at HS2
          simp only [eachBit] at HS2
          have HS3 := Lib.hid HS2
          clear HS2 hx hy
          go_wp2_with fail
          go_round
          case rel => exact ⟨k + 1, by omega, by go_num, by rw [HS3.out]; first | rfl | (rw [HO.out]; rfl) | (simp; done) | (rw [HO.out]; simp; done)⟩
          case measure => simp [intOf]; omega
      · obtain rfl : k = 64 := by omega
        go_wp2_with fail
        go_ret
        exact ⟨rfl, rfl⟩
end Go.Proofs.Ytlfgddljmcgggaa
