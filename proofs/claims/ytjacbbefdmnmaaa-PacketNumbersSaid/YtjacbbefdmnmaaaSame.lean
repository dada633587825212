/- Contracts of the statement kit's functions on bytes, over this seat's program. -/
import Derived.Test.YtjacbbefdmnmaaaProg
import Derived.WalkKit
import Derived.IntWalk
import Derived.Lib.Hide
import Derived.Deep.QuietTactic
import Derived.BigQuiet
import Derived.Deep.Draws
namespace Go.Proofs.Ytjacbbefdmnmaaa
open Go.RowKit

theorem add_blk (a : Addr) (n : Nat) : (a.add n).block = a.block := by unfold Addr.add; split <;> rfl

/-- The slice at A, of capacity c, holds the cells xs, in a block below B. -/
def Rd (w : World) (B : Nat) (A : Option Addr) (c : Nat) (xs : List Value) : Prop :=
  (A = none → c = 0) ∧ (xs ≠ [] → ∃ a, A = some a ∧ a.block < B ∧ ∀ j u, xs[j]? = some u → w.cell? (a.add j) = some u)

theorem Rd.none_ (w : World) (B : Nat) (A : Option Addr) (c : Nat) (h : A = none → c = 0) : Rd w B A c [] := ⟨h, fun h => absurd rfl h⟩
theorem Rd.keep {w w' : World} {B c : Nat} {A : Option Addr} {xs : List Value} (h : Rd w B A c xs) (hk : ∀ p : Addr, p.block < B → w'.cell? p = w.cell? p) : Rd w' B A c xs :=
  ⟨h.1, fun hx => let ⟨a, e, hb, hc⟩ := h.2 hx; ⟨a, e, hb, fun j u hu => (hk _ (by rw [add_blk]; exact hb)).trans (hc j u hu)⟩⟩
theorem Rd.mono {w : World} {B B' c : Nat} {A : Option Addr} {xs : List Value} (h : Rd w B A c xs) (hB : B ≤ B') : Rd w B' A c xs :=
  ⟨h.1, fun hx => let ⟨a, e, hb, hc⟩ := h.2 hx; ⟨a, e, by omega, hc⟩⟩
theorem Rd.below {w w' : World} {B c : Nat} {A : Option Addr} {xs : List Value} (h : Rd w B A c xs) (hb : Below B w w') : Rd w' B A c xs := h.keep fun _ hp => hb.cell hp
theorem Rd.nonone {w : World} {B c : Nat} {A : Option Addr} {xs : List Value} (h : Rd w B A c xs) : A = none → xs.length = 0 ∧ c = 0 := by
  intro e
  refine ⟨?_, h.1 e⟩
  cases xs with
  | nil => rfl
  | cons x l => obtain ⟨a, e', _⟩ := h.2 (by simp); rw [e] at e'; cases e'
theorem Rd.cells {w : World} {B c : Nat} {A : Option Addr} {xs : List Value} (h : Rd w B A c xs) : ∀ ad, A = some ad → ∀ j u, xs[j]? = some u → w.cell? (ad.add j) = some u := by
  intro ad e j u hu
  obtain ⟨a, e', _, hc⟩ := h.2 (by rintro rfl; simp at hu)
  rw [e] at e'; injection e' with e'; subst e'
  exact hc j u hu

def u8s (l : List Int) : List Value := l.map (Value.int .u8)
@[simp] theorem u8s_len (l : List Int) : (u8s l).length = l.length := by simp [u8s]

theorem Rd.at_ {w : World} {B : Nat} {A : Option Addr} {l : List Int} {c : Nat} (h : Rd w B A c (u8s l)) {k : Nat} (hk : k < l.length) :
    ∃ a x, A = some a ∧ a.block < B ∧ w.cell? (a.add k) = some (.int .u8 x) ∧ Hid (l[k]? = some x) := by
  obtain ⟨a, e, hb, hc⟩ := h.2 (by intro e; have := congrArg List.length e; simp at this; subst this; simp at hk)
  exact ⟨a, l[k], e, hb, hc k _ (by simp [u8s, hk]), List.getElem?_eq_getElem hk⟩

/-- The two lists' first k numbers are the same. -/
def Agree (xs ys : List Int) (k : Nat) : Prop := ∀ j, j < k → xs[j]? = ys[j]?
theorem Agree.succ {xs ys : List Int} {k : Nat} (h : Agree xs ys k) (e : xs[k]? = ys[k]?) : Agree xs ys (k + 1) := by
  intro j hj
  rcases Nat.lt_or_ge j k with h1 | h1
  · exact h j h1
  · obtain rfl : j = k := by omega
    exact e
theorem Agree.all {xs ys : List Int} {k : Nat} (h : Agree xs ys k) (hk : xs.length ≤ k) (hl : xs.length = ys.length) : xs = ys := by
  apply List.ext_getElem? 
  intro i
  rcases Nat.lt_or_ge i k with h1 | h1
  · exact h i h1
  · rw [List.getElem?_eq_none (by omega), List.getElem?_eq_none (by omega)]

theorem same_any (A B : Option Addr) (c d : Nat) (xs ys : List Int) (w : World) (ha : Rd w w.heap.size A c (u8s xs)) (hb : Rd w w.heap.size B d (u8s ys))
    (hn : xs.length ≤ 9223372036854775807) (hm : ys.length ≤ 9223372036854775807) :
    Calls Try.prog 16 #[.slice A xs.length c, .slice B ys.length d] w fun e w' => e = .returned (.bool (decide (xs = ys))) ∧ ∃ k, w' = w.drewN k := by
  by_cases hl : xs.length = ys.length
  · have hne : ((xs.length : Int) != (ys.length : Int)) = false := by simp [hl]
    have HL := Lib.hid hl
    clear hl
    go_enter Try.func16, Try.ntmps16
    go_wp2
    clear hne
    go_loopw [5] (fun i wr => ∃ k q : Nat, k ≤ xs.length ∧ i = .int .i64 k ∧ Agree xs ys k ∧ wr = w.drewN q) (fun i _ => xs.length - (intOf i).toNat)
    case atStart => exact ⟨0, 0, Nat.zero_le _, rfl, fun j hj => absurd hj (by omega), rfl⟩
    case round =>
      obtain ⟨k, q, hk, rfl, hag, rfl⟩ := hrel
      have HA := Lib.hid hag
      clear hag
      by_cases hlt : k < xs.length
      · have hlt2 : k < ys.length := by have := HL.out; omega
        obtain ⟨a, x, rfl, _, ca, hx⟩ := ha.at_ hlt
        obtain ⟨b, y, rfl, _, cb, hy⟩ := hb.at_ hlt2
        by_cases he : x = y
        · have hb' : (x != y) = false := by simp [he]
          have HE : Hid (xs[k]? = ys[k]?) := by rw [hx.out, hy.out, he]; exact rfl
          clear he
          go_wp2
          go_quiet (fail)
          go_wp2
          go_roundw
          case rel => exact ⟨k + 1, _, by omega, by go_num, HA.out.succ HE.out, rfl⟩
          case measure => simp [intOf]; omega
        · have hb' : (x != y) = true := by simp [he]
          have HE : Hid (xs ≠ ys) := by intro e; subst e; have h1 := hx.out; rw [hy.out] at h1; injection h1 with h1; exact he h1.symm
          clear he
          go_wp2
          go_quiet (fail)
          go_wp2
          go_ret
          exact ⟨by simp [HE.out], _, World.drewN_drewN _ _ _⟩
      · go_wp2
        go_ret
        exact ⟨by simp [HA.out.all (by omega) HL.out], _, rfl⟩
  · have hne : ((xs.length : Int) != (ys.length : Int)) = true := by simp; omega
    go_enter Try.func16, Try.ntmps16
    go_wp2
    go_ret
    refine ⟨?_, 0, rfl⟩
    have : xs ≠ ys := fun e => hl (by rw [e])
    simp [this]
end Go.Proofs.Ytjacbbefdmnmaaa
