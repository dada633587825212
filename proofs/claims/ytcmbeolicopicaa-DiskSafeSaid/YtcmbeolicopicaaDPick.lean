/- disk: Pick. -/
import Derived.Test.YtcmbeolicopicaaDConv2
namespace Go.Proofs.Ytcmbeolicopicaa
open Go.RowKit Go.Maps Go.ChangeMaps
set_option linter.unusedVariables false
set_option linter.unusedSimpArgs false
set_option maxRecDepth 100000

/-- A number cut to so many. -/
def pickI (x n : Int) : Int := if n < 1 then 0 else x % n
theorem pickI_range (x n : Int) (h : 1 ≤ n) : 0 ≤ pickI x n ∧ pickI x n < n := by
  unfold pickI
  rw [if_neg (by omega)]
  exact ⟨Int.emod_nonneg _ (by omega), Int.emod_lt_of_pos _ (by omega)⟩
theorem tmod_lo (x n : Int) (h : 1 ≤ n) : -n < x.tmod n ∧ x.tmod n < n := by
  have h1 := Int.tmod_lt_of_pos x (by omega : 0 < n)
  have h2 := Int.tmod_lt_of_pos (-x) (by omega : 0 < n)
  rw [Int.neg_tmod] at h2
  exact ⟨by omega, h1⟩
theorem pick_neg (x n : Int) (h : 1 ≤ n) (h0 : x.tmod n < 0) : x.tmod n + n = pickI x n := by
  have h1 := tmod_lo x n h
  unfold pickI
  rw [if_neg (by omega)]
  have e : x % n = (x.tmod n + n) % n := by
    rw [Int.add_emod_right]
    have := Int.mul_tdiv_add_tmod x n
    conv => lhs; rw [← this]
    rw [Int.add_comm, Int.add_mul_emod_self_left]
  rw [e, Int.emod_eq_of_lt (by omega) (by omega)]
theorem pick_pos (x n : Int) (h : 1 ≤ n) (h0 : 0 ≤ x.tmod n) : x.tmod n = pickI x n := by
  have h1 := tmod_lo x n h
  unfold pickI
  rw [if_neg (by omega)]
  have e : x % n = (x.tmod n) % n := by
    have := Int.mul_tdiv_add_tmod x n
    conv => lhs; rw [← this]
    rw [Int.add_comm, Int.add_mul_emod_self_left]
  rw [e, Int.emod_eq_of_lt (by omega) (by omega)]
theorem pick_any (x n : Int) (w : World) (h1 : 1 ≤ n) (h2 : n ≤ 9223372036854775807) :
    Calls Try.prog 7 #[.int .i64 x, .int .i64 n] w fun e w' => e = .returned (.int .i64 (pickI x n)) ∧ w = w' := by
  have hb := tmod_lo x n h1
  go_enter Try.func7, Try.ntmps7
  go_wp2
  · have h0 : x.tmod n < 0 := by assumption
    go_ret
    exact ⟨congrArg (fun z => Ending.returned (.int .i64 z)) (pick_neg x n h1 h0), rfl⟩
  · have h0 : 0 ≤ x.tmod n := by assumption
    go_ret
    exact ⟨congrArg (fun z => Ending.returned (.int .i64 z)) (pick_pos x n h1 h0), rfl⟩

end Go.Proofs.Ytcmbeolicopicaa

