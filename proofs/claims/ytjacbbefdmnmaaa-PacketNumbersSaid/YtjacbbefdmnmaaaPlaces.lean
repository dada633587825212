/- The program's places (package packet), a function that is ranged over, over this seat's program. -/
import Derived.RangeFuncNested
import Derived.RangeFuncBound
import Derived.RangeFuncCalls
import Derived.RangeFuncLeaves
import Derived.Shelf.Abstract
import Derived.Shelf.RegionOpen
import Derived.WalkKit
import Derived.OwnWalkIn
import Derived.TacticsInMore
import Derived.LoopNIn
import Derived.LoopIn
import Derived.Test.YtjacbbefdmnmaaaCaught
namespace Go.Proofs.Ytjacbbefdmnmaaa
open Go.RowKit Go.Shelf

attribute [local go_sem] Oper.semAt_some

/-- Two blocks lie as they lay. -/
def Kp2 (a b : Nat) (W W' : World) : Prop := W'.heap[a]? = W.heap[a]? ∧ W'.heap[b]? = W.heap[b]?

/-- What has come when k rounds are over. -/
def upto (s : Nat) (k : Nat) : List (Fin s) := (List.finRange s).take k
theorem upto_succ (s : Nat) {k : Nat} (hk : k < s) : upto s (k + 1) = upto s k ++ [⟨k, hk⟩] := by
  unfold upto
  rw [List.take_succ_eq_append_getElem (by simpa using hk)]
  simp
theorem upto_all (s : Nat) : upto s s = List.finRange s := by unfold upto; rw [List.take_of_length_le (by simp)]
theorem upto_len (s k : Nat) (hk : k ≤ s) : (upto s k).length = k := by simp [upto, hk]

def encP (t : Int) (s : Nat) (i : Fin s) : Array Value := #[.int .i64 (t + (i.1 : Int)), .int .i64 (8 * ((s : Int) - 1 - (i.1 : Int)))]

set_option maxRecDepth 100000 in
set_option maxHeartbeats 2000000 in
theorem places1_in (F : Fence) (n : Nat) (h29 : F.fn 29) (hro : F.round = none) (hn : 1 ≤ n) (l bs bt : Nat) (t : Int) (s : Nat) (hs : s ≤ 8) (ht0 : 0 ≤ t) (ht : t ≤ 1000000) (J Jx : List (Fin s) → World → Prop)
    (hY : ∀ pre x W, J pre W → pre.length < s → YieldAt F (n - 1) Try.prog l (encP t s x) W fun e W' =>
      (e = .returned (.bool true) ∧ J (pre ++ [x]) W' ∧ Kp2 bs bt W W') ∨ (e = .returned (.bool false) ∧ Jx (pre ++ [x]) W'))
    (W : World) (hbs : Bk W bs 3 [.int .i64 s]) (hbt : Bk W bt 2 [.int .i64 t]) (h0 : J [] W) :
    CallsIn F n Try.prog 29 #[.func (.yield l) #[] #[], .pointer (some ⟨bs, 0, none⟩), .pointer (some ⟨bt, 0, none⟩)] W fun e W' => (∃ v, e = .returned v) ∧
      ((∃ ys, ys = List.finRange s ∧ J ys W') ∨ (∃ pre, (∃ k, k ≤ s ∧ pre = upto s k) ∧ Jx pre W')) := by
  have c1 : W.cell? ⟨bs, 0, none⟩ = some (.int .i64 s) := by rw [hbs.cell]; rfl
  refine callsIn_of_wp Try.func29 rfl h29 ?_ hro
  simp only [Try.ntmps29, List.size_toArray, List.length_cons, List.length_nil, Nat.reduceAdd, Nat.reduceSub, Array.replicate_succ, Array.replicate_zero, List.push_toArray, List.append_toArray, List.nil_append, List.cons_append]
  gi_wp2
  gi_loopw [4, 6] (fun _ i wr => ∃ k : Nat, k ≤ s ∧ i = .int .i64 k ∧ J (upto s k) wr ∧ Bk wr bs 3 [.int .i64 s] ∧ Bk wr bt 2 [.int .i64 t])
    (fun _ i _ => s - (intOf i).toNat)
  case atStart => exact ⟨0, Nat.zero_le _, rfl, by simpa [upto] using h0, hbs, hbt⟩
  case round =>
    obtain ⟨k, hk, rfl, hJs, hbs', hbt'⟩ := hrel
    clear c1
    have c1 : wr.cell? ⟨bs, 0, none⟩ = some (.int .i64 s) := by rw [hbs'.cell]; rfl
    have c2 : wr.cell? ⟨bt, 0, none⟩ = some (.int .i64 t) := by rw [hbt'.cell]; rfl
    by_cases hlt : k < s
    · obtain ⟨fn, tmps, assign, body, hy, hR⟩ := hY _ ⟨k, hlt⟩ wr hJs (by rw [upto_len _ _ hk]; exact hlt)
      simp only [encP] at hy
      gi_wp2
      refine hR.mono ?_
      rintro e W3 (⟨rfl, hJ3, hk3⟩ | ⟨rfl, hJx3⟩)
      · gi_wp2
        go_roundw
        case rel => exact ⟨k + 1, by omega, by simp, by rw [upto_succ _ hlt]; exact hJ3, hk3.1.trans hbs', hk3.2.trans hbt'⟩
        case measure => simp [intOf]; omega
      · gi_wp2
        refine bodyPost_ret (results_none rfl _ _ _) rfl ?_
        exact ⟨⟨_, rfl⟩, .inr ⟨_, ⟨k + 1, by omega, (upto_succ _ hlt).symm⟩, hJx3⟩⟩
    · obtain rfl : k = s := by omega
      gi_wp2
      go_end0
      exact ⟨⟨_, rfl⟩, .inl ⟨_, (upto_all _), hJs⟩⟩
end Go.Proofs.Ytjacbbefdmnmaaa
