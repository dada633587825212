/- The reference's moved (barbicanref01), over this seat's program. -/
import Derived.Test.YtlfgddljmcgggaaRef
namespace Go.Proofs.Ytlfgddljmcgggaa
open Go.RowKit
set_option linter.unusedVariables false

set_option maxHeartbeats 400000 in
theorem moved_any (a : Nat) (d : Int) (size : Nat) (inn : Bool) (w : World) (hs : size ≤ 64) (hd0 : -64 < d) (hd1 : d < 64) (ha : a < 18446744073709551616) :
    Calls Try.prog 18 #[.int .u64 a, .int .i64 d, .int .i64 size, .bool inn] w fun e w' => e = .returned (.int .u64 ((movedN a d size inn size : Nat) : Int)) ∧ w = w' := by
  obtain ⟨G, hG⟩ : ∃ G : Nat → Nat, G = fun n => movedN a d size inn n := ⟨_, rfl⟩
  have HG : Hid (∀ n, G (n + 1) = if movedBit a d size inn n then G n ||| 2 ^ n else G n) := Lib.hid (fun n => by rw [hG]; rfl)
  have HL : Hid (∀ n, G n < 2 ^ n) := Lib.hid (fun n => by rw [hG]; exact gather_lt _ n)
  have HE : Hid (movedN a d size inn size = G size) := Lib.hid (by rw [hG])
  have HZ : Hid (G 0 = 0) := Lib.hid (by rw [hG]; rfl)
  rw [HE.out]
  clear hG HE
  go_enter Try.func18, Try.ntmps18
  go_wp2_with fail
  go_loop [9, 10] (fun n i => ∃ k : Nat, k ≤ size ∧ i = .int .i64 k ∧ n = .int .u64 (G k : Int)) (fun _ i => size - (intOf i).toNat)
  case atStart => exact ⟨0, by omega, rfl, by rw [HZ.out]; rfl⟩
  case round =>
    obtain ⟨k, hk, rfl, rfl⟩ := hrel
    by_cases hlt : k < size
    · have HO := Lib.hid (or_pow (G k) k (HL.out k) (by omega))
      by_cases h0 : 0 ≤ (k : Int) - d
      · by_cases h1 : (k : Int) - d < size
        · obtain ⟨m, hm⟩ := Int.eq_ofNat_of_zero_le h0
          have hms : m < size := by omega
          have hb : movedBit a d size inn k = a.testBit m := by unfold movedBit; rw [if_pos ⟨h0, h1⟩, hm]; rfl
          have HS := Lib.hid (HG.out k)
          have HB := Lib.hid hb
          have HM := Lib.hid hm
          clear hb hm
          go_wp2_with fail
          rw [HM.out]
          refine (bit_any a m _ ha (by omega)).mono ?_
          rintro e w1 ⟨rfl, rfl⟩
          cases hx : a.testBit m
          all_goals
            have HS2 := HS.out
            rw [HB.out, hx] at HS2
            have HS3 := Lib.hid HS2
            clear HS2 hx
            go_wp2_with fail
            go_round
            case rel => exact ⟨k + 1, by omega, by go_num, by rw [HS3.out]; first | rfl | (rw [HO.out]; rfl) | (simp; done) | (rw [HO.out]; simp; done)⟩
            case measure => simp [intOf]; omega
        · have hb : movedBit a d size inn k = inn := by unfold movedBit; rw [if_neg (by omega)]
          have HS := Lib.hid (HG.out k)
          have HB := Lib.hid hb
          clear hb
          cases inn
          all_goals
            have HS2 := HS.out
            rw [HB.out] at HS2
            have HS3 := Lib.hid HS2
            clear HS2
            go_wp2_with fail
            go_round
            case rel => exact ⟨k + 1, by omega, by go_num, by rw [HS3.out]; first | rfl | (rw [HO.out]; rfl) | (simp; done) | (rw [HO.out]; simp; done)⟩
            case measure => simp [intOf]; omega
      · have hb : movedBit a d size inn k = inn := by unfold movedBit; rw [if_neg (by omega)]
        have HS := Lib.hid (HG.out k)
        have HB := Lib.hid hb
        clear hb
        cases inn
        all_goals
          have HS2 := HS.out
          rw [HB.out] at HS2
          have HS3 := Lib.hid HS2
          clear HS2
          go_wp2_with fail
          go_round
          case rel => exact ⟨k + 1, by omega, by go_num, by rw [HS3.out]; first | rfl | (rw [HO.out]; rfl) | (simp; done) | (rw [HO.out]; simp; done)⟩
          case measure => simp [intOf]; omega
    · obtain rfl : k = size := by omega
      go_wp2_with fail
      go_ret
      exact ⟨rfl, rfl⟩
end Go.Proofs.Ytlfgddljmcgggaa
