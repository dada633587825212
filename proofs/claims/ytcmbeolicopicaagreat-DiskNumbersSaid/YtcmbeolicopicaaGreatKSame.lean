/- Small facts on slices and bytes; SameBytes. -/
import Derived.OwnWalk
import Derived.Laws.MakeOwn
import Derived.StillTailTactics
import Derived.Test.YtcmbeolicopicaaGreatZ2
namespace Go.Proofs.YtcmbeolicopicaaGreat
open Go.RowKit
set_option linter.unusedVariables false
set_option maxRecDepth 100000

/-- The two lists' first k numbers are the same. -/
def Agree (xs ys : List Int) (k : Nat) : Prop := ∀ j, j < k → xs[j]? = ys[j]?
theorem Agree.succ {xs ys : List Int} {k : Nat} (h : Agree xs ys k) (e : xs[k]? = ys[k]?) : Agree xs ys (k + 1) := by
  intro j hj
  rcases Nat.lt_or_ge j k with h1 | h1
  · exact h j h1
  · obtain rfl : j = k := by omega
    exact e
theorem Agree.all {xs ys : List Int} {k : Nat} (h : Agree xs ys k) (hk : xs.length ≤ k) (hl : xs.length = ys.length) : xs = ys := by
  apply List.ext_getElem? 
  intro i
  rcases Nat.lt_or_ge i k with h1 | h1
  · exact h i h1
  · rw [List.getElem?_eq_none (by omega), List.getElem?_eq_none (by omega)]
theorem SameBytes_any (KA KB : Nat → Prop) (A B : Option Addr) (c d : Nat) (xs ys : List Int) (w : World) (ha : Rd w KA A c (u8s xs)) (hb : Rd w KB B d (u8s ys))
    (hn : xs.length ≤ 9223372036854775807) (hm : ys.length ≤ 9223372036854775807) :
    Calls Tryz.prog 10 #[.slice A xs.length c, .slice B ys.length d] w fun e w' => e = .returned (.bool (decide (xs = ys))) ∧ ∃ k, w' = w.drewN k := by
  by_cases hl : xs.length = ys.length
  · have hne : ((xs.length : Int) != (ys.length : Int)) = false := by simp [hl]
    have HL := Lib.hid hl
    clear hl
    go_enter Tryz.func10, Tryz.ntmps10
    go_wp2
    clear hne
    go_loopw [5] (fun i wr => ∃ k q : Nat, k ≤ xs.length ∧ i = .int .i64 k ∧ Agree xs ys k ∧ wr = w.drewN q) (fun i _ => xs.length - (intOf i).toNat)
    case atStart => exact ⟨0, 0, Nat.zero_le _, rfl, fun j hj => absurd hj (by omega), rfl⟩
    case round =>
      obtain ⟨k, q, hk, rfl, hag, rfl⟩ := hrel
      have HA := Lib.hid hag
      clear hag
      by_cases hlt : k < xs.length
      · have hlt2 : k < ys.length := by have := HL.out; omega
        obtain ⟨a, x, rfl, _, ca, hx⟩ := ha.at_ hlt
        obtain ⟨b, y, rfl, _, cb, hy⟩ := hb.at_ hlt2
        by_cases he : x = y
        · have hb' : (x != y) = false := by simp [he]
          have HE : Hid (xs[k]? = ys[k]?) := by rw [hx.out, hy.out, he]; exact rfl
          clear he
          go_wp2
          go_quiet (fail)
          go_wp2
          go_roundw
          case rel => exact ⟨k + 1, _, by omega, by go_num, HA.out.succ HE.out, rfl⟩
          case measure => simp [intOf]; omega
        · have hb' : (x != y) = true := by simp [he]
          have HE : Hid (xs ≠ ys) := by intro e; subst e; have h1 := hx.out; rw [hy.out] at h1; injection h1 with h1; exact he h1.symm
          clear he
          go_wp2
          go_quiet (fail)
          go_wp2
          go_ret
          exact ⟨by simp [HE.out], _, World.drewN_drewN _ _ _⟩
      · go_wp2
        go_ret
        exact ⟨by simp [HA.out.all (by omega) HL.out], _, rfl⟩
  · have hne : ((xs.length : Int) != (ys.length : Int)) = true := by simp; omega
    go_enter Tryz.func10, Tryz.ntmps10
    go_wp2
    go_ret
    refine ⟨?_, 0, rfl⟩
    have : xs ≠ ys := fun e => hl (by rw [e])
    simp [this]
end Go.Proofs.YtcmbeolicopicaaGreat
