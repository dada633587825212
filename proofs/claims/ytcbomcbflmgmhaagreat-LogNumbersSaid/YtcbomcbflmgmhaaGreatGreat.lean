/- EntriesOf, great: over this seat's program. -/
import Derived.Test.YtcbomcbflmgmhaaGreatSame
namespace Go.Proofs.YtcbomcbflmgmhaaGreat
open Go.RowKit
set_option linter.unusedVariables false
set_option maxRecDepth 100000

def SmallTo (es : List En) (k : Nat) (n : Nat) : Prop := ∀ j e, j < k → es[j]? = some e → e.data.length / 8 ≤ n
theorem SmallTo.step {es : List En} {k n : Nat} {e : En} (h : SmallTo es k n) (he : es[k]? = some e) : SmallTo es (k + 1) (n + e.data.length / 8) := by
  intro j x hj hx
  rcases Nat.lt_or_ge j k with h1 | h1
  · have := h j x h1 hx; omega
  · obtain rfl : j = k := by omega
    rw [he] at hx
    injection hx with hx
    subst hx
    omega
/-- What is said of entries that aren't too many. -/
def Small (es : List En) : Prop := es.length ≤ 300 ∧ ∀ e ∈ es, e.data.length ≤ 2407
theorem SmallTo.small {es : List En} {k n : Nat} (h : SmallTo es k n) (hk : es.length ≤ k) (hl : es.length ≤ n) (hn : n ≤ 300) : Small es := by
  refine ⟨by omega, fun e he => ?_⟩
  obtain ⟨j, hj⟩ := List.mem_iff_getElem?.1 he
  have := h j e (by have := (List.getElem?_eq_some_iff.1 hj).1; omega) hj
  omega

set_option maxHeartbeats 1000000 in
theorem EntriesOf_any (K : Nat → Prop) (A : Option Addr) (c : Nat) (es : List En) (w : World) (ha : Ents w K A c es) :
    Calls Tryz.prog 19 #[.slice A es.length c, .int .i64 300] w fun e w' => ∃ n : Nat, e = .returned (.int .i64 n) ∧ (∃ q, w' = w.drewN q) ∧ n ≤ 9223372036854775807 ∧ (n ≤ 300 → Small es) := by
  have hn : es.length ≤ 9223372036854775807 := Nat.le_trans ha.2.1 (Nat.le_trans ha.2.2.1 (by decide))
  go_enter Tryz.func19, Tryz.ntmps19
  go_wp2_with fail
  go_loopw [5, 6] (fun m i wr => ∃ k n : Nat, k ≤ es.length ∧ i = .int .i64 k ∧ m = .int .i64 n ∧ es.length ≤ n ∧ n ≤ 9223372036854775807 ∧ Hid (SmallTo es k n) ∧ ∃ q, wr = w.drewN q) (fun _ i _ => es.length - (intOf i).toNat)
  case atStart => exact ⟨0, es.length, Nat.zero_le _, rfl, rfl, Nat.le_refl _, by omega, fun j e hj => absurd hj (by omega), 0, rfl⟩
  case round =>
    obtain ⟨k, n, hk, rfl, rfl, hln, hnm, hs, q, rfl⟩ := hrel
    by_cases hlt : k < es.length
    · have d1 : decide ((k : Int) < (es.length : Int)) = true := decide_eq_true (by omega)
      by_cases hn3 : n ≤ 300
      · have d2 : decide ((n : Int) ≤ 300) = true := decide_eq_true (by omega)
        obtain ⟨a, x, D, d, rfl, ka, hx, ca, ra, la, ma⟩ := ha.at_ hlt
        have hdl : x.data.length ≤ 9223372036854775807 := Nat.le_trans la (Nat.le_trans ma (by decide))
        obtain ⟨a0, a1, a2, a3, a4, a5⟩ := en6 ca
        clear ca a0 a1 a2 a3 a4
        go_wp2_with fail
        go_roundw
        case rel => exact ⟨k + 1, n + x.data.length / 8, by omega, by go_num, by go_num, by omega, by omega, hs.out.step hx.out, q, rfl⟩
        case measure => simp [intOf]; omega
      · have d2 : decide ((n : Int) ≤ 300) = false := decide_eq_false (by omega)
        go_wp2_with fail
        go_ret
        exact ⟨n, rfl, ⟨q, rfl⟩, hnm, fun h => absurd h hn3⟩
    · have d1 : decide ((k : Int) < (es.length : Int)) = false := decide_eq_false (by omega)
      go_wp2_with fail
      go_ret
      exact ⟨n, rfl, ⟨q, rfl⟩, hnm, fun h => hs.out.small (by omega) hln h⟩

theorem great_any (K : Nat → Prop) (A : Option Addr) (c : Nat) (es : List En) (w : World) (ha : Ents w K A c es) :
    Calls Tryz.prog 5 #[.slice A es.length c] w fun e w' => ∃ b : Bool, e = .returned (.bool b) ∧ (∃ q, w' = w.drewN q) ∧ (b = false → Small es) := by
  go_enter Tryz.func5, Tryz.ntmps5
  go_wp2_with fail
  refine (EntriesOf_any K A c es w ha).mono ?_
  rintro e w1 ⟨n, rfl, ⟨q, rfl⟩, hn, hs⟩
  go_wp2_with fail
  go_ret
  exact ⟨_, rfl, ⟨q, rfl⟩, fun h => hs (by simp at h; omega)⟩
end Go.Proofs.YtcbomcbflmgmhaaGreat
