/- Contracts of the statement kit's functions on bytes. Contracts of the statement kit's functions on bytes. Contracts of the statement kit's functions on bytes. The reference's functions (barbicanref09). The reference's Set (barbicanref09). The program's check, places and caught (package packet). The program's caught (package packet). The program's places (package packet), a function that is ranged over. A region that draws its order, inside a round of a loop over a function: the operations ahead of the last ones only read. The program's Get (package packet). The program's Get (package packet): what its rounds come to; its errors; the whole. The program's Set (package packet). Set of bytes that lie inside a block of other things. -/
import Derived.Test.YtbfegghkipoppaaProg
import Derived.WalkKit
import Derived.IntWalk
import Derived.Lib.Hide
import Derived.Deep.QuietTactic
import Derived.BigQuiet
import Derived.Deep.Draws
import Derived.Laws.AppendOwnNone
import Derived.WalkLawsBesides
import Derived.Recover
import Derived.Defers
import Derived.Laws.Pointers
import Derived.Shelf.Abstract
import Derived.RangeFuncNested
import Derived.RangeFuncBound
import Derived.RangeFuncCalls
import Derived.RangeFuncLeaves
import Derived.Shelf.RegionOpen
import Derived.OwnWalkIn
import Derived.TacticsInMore
import Derived.LoopNIn
import Derived.LoopIn
import Derived.OrdersIn
import Derived.StillTailTactics
import Derived.Laws.BitsAllLaws
namespace Go.Proofs.Ytbfegghkipoppaa
set_option maxRecDepth 100000
open Go.RowKit

theorem add_blk (a : Addr) (n : Nat) : (a.add n).block = a.block := by unfold Addr.add; split <;> rfl

/-- The slice at A, of capacity c, holds the cells xs, in a block below B. -/
def Rd (w : World) (B : Nat) (A : Option Addr) (c : Nat) (xs : List Value) : Prop :=
  (A = none → c = 0) ∧ (xs ≠ [] → ∃ a, A = some a ∧ a.block < B ∧ ∀ j u, xs[j]? = some u → w.cell? (a.add j) = some u)

theorem Rd.none_ (w : World) (B : Nat) (A : Option Addr) (c : Nat) (h : A = none → c = 0) : Rd w B A c [] := ⟨h, fun h => absurd rfl h⟩
theorem Rd.keep {w w' : World} {B c : Nat} {A : Option Addr} {xs : List Value} (h : Rd w B A c xs) (hk : ∀ p : Addr, p.block < B → w'.cell? p = w.cell? p) : Rd w' B A c xs :=
  ⟨h.1, fun hx => let ⟨a, e, hb, hc⟩ := h.2 hx; ⟨a, e, hb, fun j u hu => (hk _ (by rw [add_blk]; exact hb)).trans (hc j u hu)⟩⟩
theorem Rd.mono {w : World} {B B' c : Nat} {A : Option Addr} {xs : List Value} (h : Rd w B A c xs) (hB : B ≤ B') : Rd w B' A c xs :=
  ⟨h.1, fun hx => let ⟨a, e, hb, hc⟩ := h.2 hx; ⟨a, e, by omega, hc⟩⟩
theorem Rd.below {w w' : World} {B c : Nat} {A : Option Addr} {xs : List Value} (h : Rd w B A c xs) (hb : Below B w w') : Rd w' B A c xs := h.keep fun _ hp => hb.cell hp
theorem Rd.nonone {w : World} {B c : Nat} {A : Option Addr} {xs : List Value} (h : Rd w B A c xs) : A = none → xs.length = 0 ∧ c = 0 := by
  intro e
  refine ⟨?_, h.1 e⟩
  cases xs with
  | nil => rfl
  | cons x l => obtain ⟨a, e', _⟩ := h.2 (by simp); rw [e] at e'; cases e'
theorem Rd.cells {w : World} {B c : Nat} {A : Option Addr} {xs : List Value} (h : Rd w B A c xs) : ∀ ad, A = some ad → ∀ j u, xs[j]? = some u → w.cell? (ad.add j) = some u := by
  intro ad e j u hu
  obtain ⟨a, e', _, hc⟩ := h.2 (by rintro rfl; simp at hu)
  rw [e] at e'; injection e' with e'; subst e'
  exact hc j u hu

def u8s (l : List Int) : List Value := l.map (Value.int .u8)
@[simp] theorem u8s_len (l : List Int) : (u8s l).length = l.length := by simp [u8s]

theorem Rd.at_ {w : World} {B : Nat} {A : Option Addr} {l : List Int} {c : Nat} (h : Rd w B A c (u8s l)) {k : Nat} (hk : k < l.length) :
    ∃ a x, A = some a ∧ a.block < B ∧ w.cell? (a.add k) = some (.int .u8 x) ∧ Hid (l[k]? = some x) := by
  obtain ⟨a, e, hb, hc⟩ := h.2 (by intro e; have := congrArg List.length e; simp at this; subst this; simp at hk)
  exact ⟨a, l[k], e, hb, hc k _ (by simp [u8s, hk]), List.getElem?_eq_getElem hk⟩

/-- The two lists' first k numbers are the same. -/
def Agree (xs ys : List Int) (k : Nat) : Prop := ∀ j, j < k → xs[j]? = ys[j]?
theorem Agree.succ {xs ys : List Int} {k : Nat} (h : Agree xs ys k) (e : xs[k]? = ys[k]?) : Agree xs ys (k + 1) := by
  intro j hj
  rcases Nat.lt_or_ge j k with h1 | h1
  · exact h j h1
  · obtain rfl : j = k := by omega
    exact e
theorem Agree.all {xs ys : List Int} {k : Nat} (h : Agree xs ys k) (hk : xs.length ≤ k) (hl : xs.length = ys.length) : xs = ys := by
  apply List.ext_getElem? 
  intro i
  rcases Nat.lt_or_ge i k with h1 | h1
  · exact h i h1
  · rw [List.getElem?_eq_none (by omega), List.getElem?_eq_none (by omega)]

end Go.Proofs.Ytbfegghkipoppaa
namespace Go.Proofs.Ytbfegghkipoppaa
set_option maxRecDepth 100000
open Go.RowKit
theorem mark_any (k i : Int) (w : World) (h0 : 0 ≤ k) (h1 : k ≤ 1000000000) (h2 : 0 ≤ i) (h3 : i ≤ 1000000000000000) :
    Calls Try.prog 24 #[.int .i64 k, .int .i64 i] w fun e w' => e = .returned (.int .i64 (1000003 * (k + 7) + i)) ∧ w = w' := by
  go_enter Try.func24, Try.ntmps24
  go_wp2
  go_ret
  exact ⟨rfl, rfl⟩
/-- The mark of a place in a list of bytes. -/
def markB (k i : Int) : Int := IntKind.u64.wrap ((1000003 * (k + 7) + i) * 11400714819323198485) / 72057594037927936 % 256
theorem markByte_any (k i : Int) (w : World) (h0 : 0 ≤ k) (h1 : k ≤ 1000000000) (h2 : 0 ≤ i) (h3 : i ≤ 1000000000000000) :
    Calls Try.prog 18 #[.int .i64 k, .int .i64 i] w fun e w' => e = .returned (.int .u8 (markB k i)) ∧ w = w' := by
  go_enter Try.func18, Try.ntmps18
  go_wp2_with (go_at_call 24; refine (mark_any _ _ _ (by omega) (by omega) (by omega) (by omega)).mono ?_; rintro e w' ⟨rfl, rfl⟩)
  go_ret
  exact ⟨rfl, rfl⟩
theorem markB_range (k i : Int) : 0 ≤ markB k i ∧ markB k i < 256 := by unfold markB; omega

theorem u8_info : (Try.prog.info? 5).map (fun i => (i.zero, i.size, i.bytes)) = some (some (.int .u8 0), 1, 1) := by kernel_rfl

/-- The marks behind what is lent. -/
def marks (k : Nat) : List Int := (List.range k).map fun (i : Nat) => markB 1 (i : Int)
@[simp] theorem marks_len (k : Nat) : (marks k).length = k := by simp [marks]
theorem marks_succ (k : Nat) : marks (k + 1) = marks k ++ [markB 1 (k : Int)] := by simp [marks, List.range_succ]

/-- Block g is just the cells cs, none frozen. -/
def Bk (w : World) (g : Nat) (t : TypeId) (cs : List Value) : Prop := w.heap[g]? = some (.cells cs.toArray t (0, 0))

theorem own_all {w : World} {base e g n cap : Nat} {xs : List Value} (h : w.ownsRow base e 1 (.slice (some ⟨g, 0, none⟩) n cap) n xs) (hc : cap ≤ n) : Bk w g e xs := by
  rcases h.2 with ⟨h', _⟩ | ⟨g', cap', cur, h', _, hg, hnc, hcm, hcs, htake⟩
  · simp at h'
  · simp only [Value.slice.injEq, Option.some.injEq, Addr.mk.injEq, and_true, true_and] at h'
    obtain ⟨rfl, rfl⟩ := h'
    unfold Bk
    rw [hg, ← htake, List.take_of_length_le (by simp; omega)]

theorem u8s_one (l : List Int) : ∀ u ∈ u8s l, u.oneCell' = true := by unfold u8s; exact ints_oneCell _ _
theorem u8s_app (a b : List Int) : u8s (a ++ b) = u8s a ++ u8s b := by simp [u8s]

theorem lent_any (A : Option Addr) (c : Nat) (xs : List Int) (w : World) (ha : Rd w w.heap.size A c (u8s xs))
    (hn : xs.length ≤ 1000000) :
    Calls Try.prog 8 #[.slice A xs.length c] w fun e w' => e = .returned (.slice (some ⟨w.heap.size, 0, none⟩) xs.length (xs.length + 12)) ∧
      Bk w' w.heap.size 5 (u8s (xs ++ marks 12)) ∧ Below w.heap.size w w' := by
  obtain ⟨i0, hi, hz0, hz1, hz2⟩ := info_parts u8_info
  go_enter Try.func8, Try.ntmps8
  go_wp2_with (first
   | (at_make; refine wpList_make_own _ rfl _ _ 23 rfl w.heap.size 5 i0 (.int .u8 0) 1 Try.underlying23 hi hz0 hz1 _ _ _ (xs.length + 12) rfl rfl (by omega) (by rw [hz2]; omega) (by unfold maxLen; omega) (by omega) ?_; intro w1 hown1 hgrow1; have hb1 := (Below.refl w.heap.size w).grown hgrow1 (Nat.le_refl _) (by simp))
   | (at_builtin; refine wpList_append_fits_any _ rfl (.tmp 9) (.tmp 10) 23 rfl w.heap.size 5 i0 1 Try.underlying23 hi hz1 w.heap.size 0 (xs.length + 12) [] rfl hown1 A xs.length c (u8s xs) rfl (by simp) (by intro e; have := ha.nonone e; simpa using this) (ha.below hb1).cells (u8s_one _) (by omega) ?_; intro w2 hown2 hgrow2))
  clear hgrow1 hown1
  have hb2 := hb1.grown hgrow2 hb1.size (by intro k e; injection e with e; omega)
  simp only [Nat.zero_add, List.nil_append] at hown2
  clear hgrow2 
  go_loopw [3, 4] (fun v i wr => ∃ k : Nat, k ≤ 12 ∧ i = .int .i64 k ∧ v = .slice (some ⟨w.heap.size, 0, none⟩) (xs.length + k) (xs.length + 12) ∧ wr.ownsRow w.heap.size 5 1 (.slice (some ⟨w.heap.size, 0, none⟩) (xs.length + k) (xs.length + 12)) (xs.length + k) (u8s (xs ++ marks k)) ∧ Below w.heap.size w wr) (fun _ i _ => 12 - (intOf i).toNat)
  case atStart => exact ⟨0, Nat.zero_le _, rfl, rfl, by simpa [marks] using hown2, hb2⟩
  case round =>
    clear hb2 hb1 hown2
    obtain ⟨k, hk, rfl, rfl, hown, hb⟩ := hrel
    by_cases hlt : k < 12
    · go_wp2_with (first
       | (go_at_call 18; refine (markByte_any _ _ _ (by omega) (by omega) (by omega) (by omega)).mono ?_; rintro e w' ⟨rfl, rfl⟩)
       | (at_builtin; refine wpList_append_fits _ rfl _ _ 23 rfl w.heap.size 5 i0 1 Try.underlying23 hi hz1 w.heap.size (xs.length + k) (xs.length + 12) (u8s (xs ++ marks k)) rfl (hown.alloc _) ⟨wr.heap.size, 0, none⟩ 1 1 [.int .u8 (markB 1 k)] rfl rfl ?c1 ?c2 ?c3 ?_))
      case c1 => 
        intro j u hj
        match j, hj with
        | 0, hj => simp at hj; subst hj; simp [Addr.add]
      case c2 => intro u hu; simp at hu; subst hu; rfl
      case c3 => omega
      intro w3 hown3 hgrow3
      have hb3 := (hb.alloc hb.size _).grown hgrow3 (by have := hb.size; simp; omega) (by intro k e; injection e with e; omega)
      go_wp2
      go_roundw
      case rel => exact ⟨k + 1, by omega, by go_num, rfl, by rw [marks_succ, ← List.append_assoc, u8s_app]; exact hown3, hb3⟩
      case measure => simp [intOf]; omega
    · obtain rfl : k = 12 := by omega
      go_wp2
      go_ret
      exact ⟨rfl, own_all hown (by omega), hb⟩
end Go.Proofs.Ytbfegghkipoppaa
namespace Go.Proofs.Ytbfegghkipoppaa
set_option maxRecDepth 100000
open Go.RowKit

theorem Bk.cell {w : World} {g : Nat} {t : TypeId} {cs : List Value} (h : Bk w g t cs) (i : Nat) : w.cell? ⟨g, i, none⟩ = cs[i]? := by
  have := cell_of_row w g i cs.toArray t (0, 0) h
  simpa using this
theorem Bk.u8 {w : World} {g : Nat} {l : List Int} (h : Bk w g 5 (u8s l)) {k : Nat} (hk : k < l.length) : ∃ x, w.cell? ⟨g, k, none⟩ = some (.int .u8 x) ∧ Hid (l[k]? = some x) :=
  ⟨l[k], by rw [h.cell]; simp [u8s, hk], List.getElem?_eq_getElem hk⟩

/-- A call that leaves the world alone, inside a region that draws, behind other draws. -/
theorem qadd {P : Program} {f : FuncId} {args : Array Value} {w : World} {a n : Nat} {v : Value}
    (h : Calls P f args (w.drewN (a + n)) fun e w' => e = .returned v ∧ w.drewN (a + n) = w') :
    Calls P f args (w.drewN (a + n)) fun e w'' => e = .returned v ∧ ∃ m, w'' = w.drewN (a + m) :=
  h.mono fun _ _ h => ⟨h.1, n, h.2.symm⟩

set_option maxHeartbeats 400000 in
theorem kept_any (g n : Nat) (B : Option Addr) (d : Nat) (os ys : List Int) (w : World) (ho : Bk w g 5 (u8s os)) (hb : Rd w w.heap.size B d (u8s ys))
    (hn : os.length = n + 12) (hm : ys.length ≤ 1000000) (hm' : n ≤ 1000000) :
    Calls Try.prog 12 #[.slice (some ⟨g, 0, none⟩) n (n + 12), .slice B ys.length d] w fun e w' => e = .returned (.bool (decide (os = ys ++ marks 12))) ∧ ∃ k, w' = w.drewN k := by
  by_cases hl : n = ys.length
  · subst hl
    have HN := Lib.hid hn
    clear hn
    go_enter Try.func12, Try.ntmps12
    go_wp2
    go_loopw [6] (fun i wr => ∃ k q : Nat, k ≤ ys.length + 12 ∧ i = .int .i64 k ∧ Agree os (ys ++ marks 12) k ∧ wr = w.drewN q) (fun i _ => ys.length + 12 - (intOf i).toNat)
    case atStart => exact ⟨0, 0, Nat.zero_le _, rfl, fun j hj => absurd hj (by omega), rfl⟩
    case round =>
      obtain ⟨k, q, hk, rfl, hag, rfl⟩ := hrel
      have HA := Lib.hid hag
      clear hag
      by_cases hlt : k < ys.length
      · obtain ⟨x, ca, hx⟩ := ho.u8 (k := k) (by have := HN.out; omega)
        obtain ⟨b, y, rfl, _, cb, hy⟩ := hb.at_ hlt
        have h1 : decide (k < ys.length) = true := by simpa using hlt
        have h2 : decide (ys.length ≤ k) = false := by simpa using hlt
        by_cases he : x = y
        · have hb' : (x == y) = true := by simp [he]
          have HE : Hid (os[k]? = (ys ++ marks 12)[k]?) := by rw [hx.out, List.getElem?_append_left hlt, hy.out, he]; exact rfl
          clear he
          go_wp2
          go_quiet (fail)
          go_wp2
          go_roundw
          case rel => exact ⟨k + 1, _, by omega, by go_num, HA.out.succ HE.out, rfl⟩
          case measure => simp [intOf]; omega
        · have hb' : (x == y) = false := by simp [he]
          have HE : Hid (os ≠ ys ++ marks 12) := by
            intro e; have h1 := hx.out; rw [e, List.getElem?_append_left hlt, hy.out] at h1; injection h1 with h1; exact he h1.symm
          clear he
          go_wp2
          go_quiet (fail)
          go_wp2
          go_ret
          exact ⟨by simp [HE.out], _, World.drewN_drewN _ _ _⟩
      · by_cases hlt2 : k < ys.length + 12
        · obtain ⟨x, ca, hx⟩ := ho.u8 (k := k) (by have := HN.out; omega)
          have h1 : decide (k < ys.length) = false := by simpa using hlt
          have h2 : decide (ys.length ≤ k) = true := by simpa using hlt
          have hj : (marks 12)[k - ys.length]? = some (markB 1 ((k : Int) - ys.length)) := by
            simp [marks, show k - ys.length < 12 by omega, show (((k - ys.length : Nat) : Int)) = (k : Int) - ys.length by omega]
          have HJ := Lib.hid hj
          clear hj
          have hw : IntKind.i64.wrap ((k : Int) - ys.length) = (k : Int) - ys.length := IntWalk.i64_in _ (by omega)
          by_cases he : x = markB 1 ((k : Int) - ys.length)
          · have hb' : (x == markB 1 ((k : Int) - ys.length)) = true := by simp [he]
            have HE : Hid (os[k]? = (ys ++ marks 12)[k]?) := by
              rw [hx.out, List.getElem?_append_right (by omega), HJ.out, he]; exact rfl
            clear he
            go_wp2
            go_quiet ((go_at_call 18; exact qadd (markByte_any _ _ _ (by omega) (by omega) (by omega) (by omega))))
            go_wp2
            go_roundw
            case rel => exact ⟨k + 1, _, by omega, by go_num, HA.out.succ HE.out, rfl⟩
            case measure => simp [intOf]; omega
          · have hb' : (x == markB 1 ((k : Int) - ys.length)) = false := by simp [he]
            have HE : Hid (os ≠ ys ++ marks 12) := by
              intro e; have h1 := hx.out; rw [e, List.getElem?_append_right (by omega), HJ.out] at h1; injection h1 with h1; exact he h1.symm
            clear he
            go_wp2
            go_quiet ((go_at_call 18; exact qadd (markByte_any _ _ _ (by omega) (by omega) (by omega) (by omega))))
            go_wp2
            go_ret
            exact ⟨by simp [HE.out], _, World.drewN_drewN _ _ _⟩
        · go_wp2
          go_ret
          exact ⟨by simp [HA.out.all (by have := HN.out; omega) (by simp [HN.out])], _, rfl⟩
  · have hne : ((n : Int) != (ys.length : Int)) = true := by simp; omega
    go_enter Try.func12, Try.ntmps12
    go_wp2
    go_ret
    refine ⟨?_, 0, rfl⟩
    have : os ≠ ys ++ marks 12 := fun e => hl (by have := congrArg List.length e; simp at this; omega)
    simp [this]


/-- What Pick answers. -/
def pickI (x n : Int) : Int := if n < 1 then 0 else x % n
theorem pickI_range (x n : Int) (h : 1 ≤ n) : 0 ≤ pickI x n ∧ pickI x n < n := by
  unfold pickI
  rw [if_neg (by omega)]
  exact ⟨Int.emod_nonneg _ (by omega), Int.emod_lt_of_pos _ (by omega)⟩
theorem tmod_lo (x n : Int) (h : 1 ≤ n) : -n < x.tmod n ∧ x.tmod n < n := by
  have h1 := Int.tmod_lt_of_pos x (by omega : 0 < n)
  have h2 := Int.tmod_lt_of_pos (-x) (by omega : 0 < n)
  rw [Int.neg_tmod] at h2
  exact ⟨by omega, h1⟩
theorem pick_neg (x n : Int) (h : 1 ≤ n) (h0 : x.tmod n < 0) : x.tmod n + n = pickI x n := by
  have h1 := tmod_lo x n h
  unfold pickI
  rw [if_neg (by omega)]
  have e : x % n = (x.tmod n + n) % n := by
    rw [Int.add_emod_right]
    have := Int.mul_tdiv_add_tmod x n
    conv => lhs; rw [← this]
    rw [Int.add_comm, Int.add_mul_emod_self_left]
  rw [e, Int.emod_eq_of_lt (by omega) (by omega)]
theorem pick_pos (x n : Int) (h : 1 ≤ n) (h0 : 0 ≤ x.tmod n) : x.tmod n = pickI x n := by
  have h1 := tmod_lo x n h
  unfold pickI
  rw [if_neg (by omega)]
  have e : x % n = (x.tmod n) % n := by
    have := Int.mul_tdiv_add_tmod x n
    conv => lhs; rw [← this]
    rw [Int.add_comm, Int.add_mul_emod_self_left]
  rw [e, Int.emod_eq_of_lt (by omega) (by omega)]
end Go.Proofs.Ytbfegghkipoppaa
namespace Go.Proofs.Ytbfegghkipoppaa
set_option maxRecDepth 100000
open Go.RowKit

/-- A size. -/
def okSz (s : Int) : Bool := s == 1 || s == 2 || s == 4 || s == 8
/-- The error of a place. -/
def errOf (n : Nat) (t s : Int) : Int := if okSz s then (if 0 ≤ t ∧ t + s ≤ n then 0 else 112) else 2

theorem errOf_0 {n : Nat} {t s : Int} (h : okSz s = true) (h1 : 0 ≤ t) (h2 : t + s ≤ n) : errOf n t s = 0 := by simp [errOf, h, h1, h2]
theorem errOf_112 {n : Nat} {t s : Int} (h : okSz s = true) (h1 : ¬ (0 ≤ t ∧ t + s ≤ n)) : errOf n t s = 112 := by simp [errOf, h, h1]
theorem errOf_2 {n : Nat} {t s : Int} (h : okSz s = false) : errOf n t s = 2 := by simp [errOf, h]

theorem place_size (s : Int) (h : okSz s = true) : s = 1 ∨ s = 2 ∨ s = 4 ∨ s = 8 := by
  simpa [okSz, or_assoc] using h
theorem place_no (s : Int) (h : okSz s = false) : s ≠ 1 ∧ s ≠ 2 ∧ s ≠ 4 ∧ s ≠ 8 := by
  simpa [okSz, and_assoc] using h

theorem place_any (A : Option Addr) (n c : Nat) (t s : Int) (w : World) (hn : n ≤ 1000000) (ht : -9223372036854775808 ≤ t) (ht2 : t ≤ 9223372036854775807) :
    Calls Try.prog 60 #[.slice A n c, .int .i64 t, .int .i64 s] w fun e w' => e = .returned (.int .i64 (errOf n t s)) ∧ w = w' := by
  by_cases hs : okSz s = true
  · by_cases h0 : 0 ≤ t
    · have HE : Hid (errOf n t s = if t + s ≤ n then 0 else 112) := by
        by_cases h : t + s ≤ n
        · rw [if_pos h, errOf_0 hs h0 h]; rfl
        · rw [if_neg h, errOf_112 hs (by omega)]; rfl
      have h0' : decide (t < 0) = false := by simpa using h0
      rcases place_size s hs with rfl | rfl | rfl | rfl
      all_goals
        clear hs
        go_enter Try.func60, Try.ntmps60
        go_wp2
        · go_ret
          refine ⟨?_, rfl⟩
          rw [HE.out, if_neg (by omega)]; rfl
        · go_ret
          refine ⟨?_, rfl⟩
          rw [HE.out, if_pos (by omega)]; rfl
    · have HE : Hid (errOf n t s = 112) := errOf_112 hs (by omega)
      have h0' : decide (t < 0) = true := by simpa using h0
      rcases place_size s hs with rfl | rfl | rfl | rfl
      all_goals
        clear hs
        go_enter Try.func60, Try.ntmps60
        go_wp2
        go_ret
        refine ⟨?_, rfl⟩
        rw [HE.out]; rfl
  · have hs' : okSz s = false := by simpa using hs
    obtain ⟨a1, a2, a3, a4⟩ := place_no s hs'
    have HE : Hid (errOf n t s = 2) := errOf_2 hs'
    clear hs hs'
    have b1 : (s != 1) = true := by simpa using a1
    have b2 : (s != 2) = true := by simpa using a2
    have b3 : (s != 4) = true := by simpa using a3
    have b4 : (s != 8) = true := by simpa using a4
    clear a1 a2 a3 a4
    go_enter Try.func60, Try.ntmps60
    go_wp2
    go_ret
    refine ⟨?_, rfl⟩
    rw [HE.out]; rfl

def Bytes (xs : List Int) : Prop := ∀ x ∈ xs, 0 ≤ x ∧ x < 256
theorem Bytes.at_ {xs : List Int} (h : Bytes xs) {k : Nat} {x : Int} (hx : xs[k]? = some x) : 0 ≤ x ∧ x < 256 := h x (List.mem_of_getElem? hx)

/-- The number of the k bytes from p on, the highest first. -/
def getN (xs : List Int) (p : Nat) : Nat → Int
  | 0 => 0
  | k + 1 => 256 * getN xs p k + xs[p + k]?.getD 0
theorem getN_bound {xs : List Int} (h : Bytes xs) (p : Nat) : ∀ k, 0 ≤ getN xs p k ∧ getN xs p k < 256 ^ k
  | 0 => by simp [getN]
  | k + 1 => by
    have ih := getN_bound h p k
    have hb : 0 ≤ xs[p + k]?.getD 0 ∧ xs[p + k]?.getD 0 < 256 := by
      cases e : xs[p + k]? with
      | none => simp
      | some x => simpa using h.at_ e
    simp only [getN]
    rw [Int.pow_succ]
    omega
theorem getN_56 {xs : List Int} (h : Bytes xs) (p : Nat) {k : Nat} (hk : k < 8) : 0 ≤ getN xs p k ∧ getN xs p k < 72057594037927936 := by
  have h1 := getN_bound h p k
  refine ⟨h1.1, Int.lt_of_lt_of_le h1.2 ?_⟩
  have h2 : k = 0 ∨ k = 1 ∨ k = 2 ∨ k = 3 ∨ k = 4 ∨ k = 5 ∨ k = 6 ∨ k = 7 := by omega
  rcases h2 with rfl | rfl | rfl | rfl | rfl | rfl | rfl | rfl <;> decide
/-- What the document tells of the number at a place. -/
def getR (xs : List Int) (t s : Int) : Int := if errOf xs.length t s = 0 then getN xs t.toNat s.toNat else 0

theorem errOf_ne {n : Nat} {t s : Int} (h : errOf n t s ≠ 0) : (errOf n t s != 0) = true := by simpa using h
theorem err_cases (n : Nat) (t s : Int) : (okSz s = true ∧ 0 ≤ t ∧ t + s ≤ n ∧ errOf n t s = 0) ∨ errOf n t s ≠ 0 := by
  unfold errOf
  by_cases h : okSz s = true
  · by_cases h2 : 0 ≤ t ∧ t + s ≤ n
    · left; simp [h, h2]
    · right; simp [h, h2]
  · right; simp [h]

theorem rget_any (A : Option Addr) (c : Nat) (xs : List Int) (t s : Int) (w : World) (ha : Rd w w.heap.size A c (u8s xs)) (hx : Bytes xs) (hn : xs.length ≤ 1000000) (ht : -9223372036854775808 ≤ t) (ht2 : t ≤ 9223372036854775807) :
    Calls Try.prog 36 #[.slice A xs.length c, .int .i64 t, .int .i64 s] w fun e w' => e = .returned (.tuple #[.int .u64 (getR xs t s), .int .i64 (errOf xs.length t s)]) ∧ w = w' := by
  rcases err_cases xs.length t s with ⟨hs, h0, h1, he⟩ | he
  · obtain ⟨p, rfl⟩ := Int.eq_ofNat_of_zero_le h0
    obtain ⟨k, rfl⟩ : ∃ k : Nat, s = k := ⟨s.toNat, by have := place_size s hs; omega⟩
    have hk8 : k ≤ 8 := by have := place_size k hs; omega
    have HG : Hid (getR xs p k = getN xs p k) := Lib.hid (by unfold getR; rw [if_pos he]; simp)
    have he' : (errOf xs.length p k != 0) = false := by simp [he]
    have HE := Lib.hid he
    clear he
    go_enter Try.func36, Try.ntmps36
    go_wp2_with (go_at_call 60; refine (place_any _ _ _ _ _ _ (by omega) (by omega) (by omega)).mono ?_; rintro e w' ⟨rfl, rfl⟩)
    go_loop [9, 10] (fun n i => ∃ j : Nat, j ≤ k ∧ i = .int .i64 j ∧ n = .int .u64 (getN xs p j)) (fun _ i => k - (intOf i).toNat)
    case atStart => exact ⟨0, Nat.zero_le _, rfl, rfl⟩
    case round =>
      obtain ⟨j, hj, rfl, rfl⟩ := hrel
      by_cases hlt : j < k
      · obtain ⟨a, x, rfl, _, ca, hx'⟩ := ha.at_ (k := p + j) (by omega)
        have hb := hx.at_ hx'.out
        have hg := getN_56 hx p (k := j) (by omega)
        have HS : Hid (getN xs p (j + 1) = 256 * getN xs p j + x) := Lib.hid (by simp [getN, hx'.out])
        go_wp2
        go_round
        case rel => exact ⟨j + 1, by omega, by go_num, by rw [HS.out]⟩
        case measure => simp [intOf]; omega
      · obtain rfl : j = k := by omega
        go_wp2
        go_ret2
        exact ⟨by rw [HG.out, HE.out]; rfl, rfl⟩
  · have he' := errOf_ne he
    have HG : Hid (getR xs t s = 0) := Lib.hid (by unfold getR; rw [if_neg he])
    clear he
    go_enter Try.func36, Try.ntmps36
    go_wp2_with (go_at_call 60; refine (place_any _ _ _ _ _ _ (by omega) (by omega) (by omega)).mono ?_; rintro e w' ⟨rfl, rfl⟩)
    go_ret2
    exact ⟨by rw [HG.out]; rfl, rfl⟩
end Go.Proofs.Ytbfegghkipoppaa
namespace Go.Proofs.Ytbfegghkipoppaa
set_option maxRecDepth 100000
open Go.RowKit

/-- append onto a row of the call's own that is not nil, the source whatever reads as a list. -/
theorem wpList_append_rd {P : Program} (w : World) {ops : Array Oper} {rest : List Oper} {o : Oper} {a : Act} {Q : Exit → Act → World → Prop} (hgd : o.guard = none) (s x : Operand) (t : TypeId)
    (ho : o.op = .call { callee := .builtin .append, args := #[s, x], argTypes := #[t, t] })
    (base : Nat) (e : TypeId) (i : TypeInfo) (z : Value) (bytes : Nat) (ht : P.underlying t = some (.slice e)) (hi : P.info? e = some i) (hz : i.zero = some z)
    (hsize : i.size = 1) (hby : i.bytes = bytes) (hzs : z.cells.size = 1)
    (v : Value) (n : Nat) (xs : List Value) (hs : a.eval s = v) (hown : w.ownsRow base e 1 v n xs)
    (B : Nat) (A : Option Addr) (m c : Nat) (news : List Value) (hm : news.length = m) (hx : a.eval x = .slice A m c) (hr : Rd w B A c news) (h1 : ∀ u ∈ news, u.oneCell' = true)
    (h63 : n + m ≤ maxLen) (hbytes : (n + m) * bytes ≤ 140737488355328) (hbase : base ≤ w.heap.size)
    (h : ∀ v' w', w'.ownsRow base e 1 v' (n + m) (xs ++ news) → w.grownBy w' v.ownBlock → (v' = .slice none 0 0 ↔ v = .slice none 0 0 ∧ m = 0) → wpList P ops Q rest (a.put o.dst v') w') : wpList P ops Q (o :: rest) a w := by
  cases A with
  | none =>
    obtain ⟨h0, rfl⟩ := hr.nonone rfl
    obtain rfl : news = [] := by simpa using h0
    obtain rfl : m = 0 := by simpa using hm.symm
    exact wpList_append_own_none hgd s x t ho base e i 1 ht hi v n xs hs hown hx (h v w (by simpa using hown) (World.grownBy.refl _ _) (by simp))
  | some ad =>
    exact wpList_append_own w hgd s x t ho base e i z 1 bytes ht hi hz hsize hby hzs (by decide) v n xs hs hown ad m c news hx (by simpa using hm) (hr.cells ad rfl) h1 h63 hbytes hbase h

theorem own_some {w : World} {base : Nat} {e : TypeId} {v : Value} {n : Nat} {xs : List Value} (h : w.ownsRow base e 1 v n xs) (hv : v ≠ .slice none 0 0) :
    ∃ g cap, v = .slice (some ⟨g, 0, none⟩) n cap ∧ base ≤ g := by
  rcases h.2 with ⟨h', _⟩ | ⟨g, cap, cur, rfl, hb, _⟩
  · exact absurd h' hv
  · exact ⟨g, cap, rfl, hb⟩

/-- The bytes behind v was set, size k, the end at q; m steps from the lowest on. -/
def setLo (xs : List Int) (q : Nat) (v : Int) : Nat → List Int
  | 0 => xs
  | m + 1 => (setLo xs q v m).set (q - 1 - m) (v / 256 ^ m % 256)
@[simp] theorem setLo_len (xs : List Int) (q : Nat) (v : Int) : ∀ m, (setLo xs q v m).length = xs.length
  | 0 => rfl
  | m + 1 => by simp [setLo, setLo_len xs q v m]
/-- The bytes behind the number v was set at p, size k. -/
def setN (xs : List Int) (p k : Nat) (v : Int) : List Int := xs.mapIdx fun j x => if p ≤ j ∧ j < p + k then v / 256 ^ (p + k - 1 - j) % 256 else x
@[simp] theorem setN_len (xs : List Int) (p k : Nat) (v : Int) : (setN xs p k v).length = xs.length := by simp [setN]
theorem setLo_at (xs : List Int) (q : Nat) (v : Int) (m : Nat) (hm : m ≤ q) (hq : q ≤ xs.length) (j : Nat) :
    (setLo xs q v m)[j]? = if q - m ≤ j ∧ j < q then some (v / 256 ^ (q - 1 - j) % 256) else xs[j]? := by
  induction m with
  | zero => simp [setLo]; omega
  | succ m ih =>
    simp only [setLo, List.getElem?_set, setLo_len]
    have ih := ih (by omega)
    by_cases h : q - 1 - m = j
    · subst h
      rw [if_pos rfl, if_pos (by omega), if_pos (by omega), show q - 1 - (q - 1 - m) = m by omega]
    · rw [if_neg h, ih]
      by_cases h2 : q - m ≤ j ∧ j < q
      · rw [if_pos h2, if_pos (by omega)]
      · rw [if_neg h2, if_neg (by omega)]
theorem setN_at (xs : List Int) (p k : Nat) (v : Int) (hq : p + k ≤ xs.length) (j : Nat) :
    (setN xs p k v)[j]? = if p ≤ j ∧ j < p + k then some (v / 256 ^ (p + k - 1 - j) % 256) else xs[j]? := by
  simp only [setN, List.getElem?_mapIdx]
  by_cases h : p ≤ j ∧ j < p + k
  · rw [if_pos h, List.getElem?_eq_getElem (by omega)]
    simp [h]
  · rw [if_neg h]
    cases xs[j]? <;> simp [h]
theorem setLo_all (xs : List Int) (p k : Nat) (v : Int) (hq : p + k ≤ xs.length) : setLo xs (p + k) v k = setN xs p k v := by
  apply List.ext_getElem?
  intro j
  rw [setLo_at _ _ _ _ (by omega) hq, setN_at _ _ _ _ hq, show p + k - k = p by omega]

theorem u8s_at (l : List Int) {k : Nat} (hk : k < l.length) : (u8s l)[k]? = some (.int .u8 l[k]) := by simp [u8s, hk]
theorem u8s_set (l : List Int) (k : Nat) (x : Int) : u8s (l.set k x) = (u8s l).set k (.int .u8 x) := by simp [u8s, List.map_set]

/-- What the document tells of the bytes behind a Set. -/
def setR (xs : List Int) (t s v : Int) : List Int := if errOf xs.length t s = 0 then setN xs t.toNat s.toNat v else xs
@[simp] theorem setR_len (xs : List Int) (t s v : Int) : (setR xs t s v).length = xs.length := by unfold setR; split <;> simp

theorem div_pow (v : Int) (m : Nat) : v / 256 ^ m / 256 = v / 256 ^ (m + 1) := by
  rw [Int.pow_succ, Int.ediv_ediv_of_nonneg]
  exact Int.le_of_lt (Int.pow_pos (by omega))

set_option maxHeartbeats 400000 in
theorem rset_any (A : Option Addr) (c : Nat) (xs : List Int) (t s v : Int) (w : World) (ha : Rd w w.heap.size A c (u8s xs)) (hn : xs.length ≤ 1000000) (ht : -9223372036854775808 ≤ t) (ht2 : t ≤ 9223372036854775807) (hv : 0 ≤ v) (hv2 : v ≤ 18446744073709551615) :
    Calls Try.prog 38 #[.slice A xs.length c, .int .i64 t, .int .i64 s, .int .u64 v] w fun e w' => ∃ g cap, e = .returned (.tuple #[.slice (some ⟨g, 0, none⟩) xs.length cap, .int .i64 (errOf xs.length t s)]) ∧
      w'.ownsRow w.heap.size 5 1 (.slice (some ⟨g, 0, none⟩) xs.length cap) xs.length (u8s (setR xs t s v)) ∧ Below w.heap.size w w' := by
  obtain ⟨i0, hi, hz0, hz1, hz2⟩ := info_parts u8_info
  have HR := Lib.hid ha
  clear ha
  rcases err_cases xs.length t s with ⟨hs, h0, h1, he⟩ | he
  · obtain ⟨p, rfl⟩ := Int.eq_ofNat_of_zero_le h0
    obtain ⟨k, rfl⟩ : ∃ k : Nat, s = k := ⟨s.toNat, by have := place_size s hs; omega⟩
    have hk8 : k ≤ 8 := by have := place_size k hs; omega
    have HG : Hid (setR xs p k v = setN xs p k v) := Lib.hid (by unfold setR; rw [if_pos he]; simp)
    have he' : (errOf xs.length p k != 0) = false := by simp [he]
    have HE := Lib.hid he
    clear he
    go_enter Try.func38, Try.ntmps38
    go_wp2_with (first
      | (go_at_call 60; refine (place_any _ _ _ _ _ _ (by omega) (by omega) (by omega)).mono ?_; rintro e w' ⟨rfl, rfl⟩)
      | (at_builtin; (refine wpList_append_rd _ rfl (.tmp 13) (.tmp 14) 23 rfl w.heap.size 5 i0 (.int .u8 0) 1 Try.underlying23 hi hz0 hz1 hz2 rfl (.slice (some ⟨w.heap.size, 0, none⟩) 0 0) 0 [] rfl (World.ownsRow_lit w #[] 0 (Nat.le_refl _) (by simp) (by simp)) w.heap.size A xs.length c (u8s xs) (by simp) rfl (HR.out.below ((Below.refl _ _).alloc (Nat.le_refl _) _)) (u8s_one _) (by unfold maxLen; omega) (by omega) (by simp) ?_); intro v' w1 hown hgrow hnn; obtain ⟨g, cap, rfl, hg⟩ := own_some hown (by rw [ne_eq, hnn]; simp); simp only [Nat.zero_add] at hown))
    have hb1 : Below w.heap.size w w1 := ((Below.refl _ _).alloc (Nat.le_refl _) _).grown hgrow (by simp) (by simp [Value.ownBlock])
    simp only [List.nil_append] at hown
    clear hnn hgrow
    go_loopw [3, 12] (fun u i wr => ∃ (m : Nat) (z : Int), m ≤ k ∧ i = .int .i64 ((k : Int) - 1 - m) ∧ u = .int .u64 z ∧ 0 ≤ z ∧ z ≤ 18446744073709551615 ∧ Hid (z = v / 256 ^ m) ∧ wr.ownsRow w.heap.size 5 1 (.slice (some ⟨g, 0, none⟩) xs.length cap) xs.length (u8s (setLo xs (p + k) v m)) ∧ Below w.heap.size w wr)
      (fun _ i _ => (intOf i + 1).toNat)
    case atStart => exact ⟨0, v, Nat.zero_le _, by simp, rfl, hv, hv2, Lib.hid (by simp), hown, hb1⟩
    case round =>
      clear hown hb1
      obtain ⟨m, z, hm, rfl, rfl, hz, hz', HZ, hown, hb⟩ := hrel
      by_cases hlt : m < k
      · obtain ⟨y, hc⟩ : ∃ y, wr.cell? ⟨g, p + (k - 1 - m), none⟩ = some (.int .u8 y) := by
          rw [hown.cellAt (p + (k - 1 - m)) (by omega)]
          exact ⟨_, u8s_at _ (by simp; omega)⟩
        have hf := hown.frozenAt (p + (k - 1 - m))
        have hst := hown.stored (p + (k - 1 - m)) (.int .u8 (z % 256))
        have HS := Lib.hid hst.1
        have hb' := hb.grown hst.2 hb.size (by intro i e; injection e with e; omega)
        clear hst
        go_wp2
        go_roundw
        case rel => exact ⟨m + 1, z / 256, by omega, by go_num, rfl, by omega, by omega, Lib.hid (by rw [HZ.out, div_pow]), by rw [setLo, u8s_set, ← HZ.out, show p + k - 1 - m = p + (k - 1 - m) by omega]; exact HS.out, hb'⟩
        case measure => simp [intOf]; omega
      · obtain rfl : m = k := by omega
        go_wp2
        go_ret2
        exact ⟨g, cap, by rw [HE.out]; rfl, by rw [HG.out, ← setLo_all _ _ _ _ (by omega)]; exact hown, hb⟩
  · have he' := errOf_ne he
    have HG : Hid (setR xs t s v = xs) := Lib.hid (by unfold setR; rw [if_neg he])
    clear he
    go_enter Try.func38, Try.ntmps38
    go_wp2_with (first
      | (go_at_call 60; refine (place_any _ _ _ _ _ _ (by omega) (by omega) (by omega)).mono ?_; rintro e w' ⟨rfl, rfl⟩)
      | (at_builtin; (refine wpList_append_rd _ rfl (.tmp 13) (.tmp 14) 23 rfl w.heap.size 5 i0 (.int .u8 0) 1 Try.underlying23 hi hz0 hz1 hz2 rfl (.slice (some ⟨w.heap.size, 0, none⟩) 0 0) 0 [] rfl (World.ownsRow_lit w #[] 0 (Nat.le_refl _) (by simp) (by simp)) w.heap.size A xs.length c (u8s xs) (by simp) rfl (HR.out.below ((Below.refl _ _).alloc (Nat.le_refl _) _)) (u8s_one _) (by unfold maxLen; omega) (by omega) (by simp) ?_); intro v' w1 hown hgrow hnn; obtain ⟨g, cap, rfl, hg⟩ := own_some hown (by rw [ne_eq, hnn]; simp); simp only [Nat.zero_add] at hown))
    go_ret2
    exact ⟨g, cap, rfl, by rw [HG.out]; simpa using hown, ((Below.refl _ _).alloc (Nat.le_refl _) _).grown hgrow (by simp) (by simp [Value.ownBlock])⟩
end Go.Proofs.Ytbfegghkipoppaa
namespace Go.Proofs.Ytbfegghkipoppaa
set_option maxRecDepth 100000
open Go.RowKit

/-- What a thrown error looks like. -/
def thrown (e : Int) : Ending := .panicked [{ v := .iface 27 (.int .i64 e), recovered := false }]

/-- The table of sizes. -/
abbrev szs : Array Value := #[.bool false, .bool true, .bool true, .bool false, .bool true, .bool false, .bool false, .bool false, .bool true]
theorem sizes_any (w : World) : Calls Try.prog 101 #[] w fun e w' => e = .returned (.agg szs) ∧ w.alloc (.cells szs 109) = w' := by
  go_enter Try.func101, Try.ntmps101
  go_wp2
  exact bodyPost_ret (v := .agg szs) (by simp [results, Try.results101, go_sem]) rfl ⟨rfl, rfl⟩

theorem check_2 (A : Option Addr) (n c : Nat) (t s : Int) (w : World) (hs : okSz s = false) :
    Calls Try.prog 69 #[.slice A n c, .int .i64 t, .int .i64 s] w fun e w' => e = thrown 2 ∧ Below w.heap.size w w' := by
  obtain ⟨a1, a2, a3, a4⟩ := place_no s hs
  have hb : Below w.heap.size w ((w.alloc (.cells szs 109)).alloc (.cells szs 109)) := ((Below.refl _ _).alloc (Nat.le_refl _) _).alloc (by simp) _
  have HB := Lib.hid hb
  clear hb
  by_cases h0 : s < 0
  · have h0' : decide (s < 0) = true := by simpa using h0
    go_enter Try.func69, Try.ntmps69
    go_wp2_with (go_at_call 101; refine (sizes_any _).mono ?_; rintro e w' ⟨rfl, rfl⟩)
    exact ⟨rfl, rfl, HB.out⟩
  · have h0' : decide (s < 0) = false := by simpa using h0
    by_cases h9 : 9 ≤ s
    · have h9' : decide (9 ≤ s) = true := by simpa using h9
      go_enter Try.func69, Try.ntmps69
      go_wp2_with (go_at_call 101; refine (sizes_any _).mono ?_; rintro e w' ⟨rfl, rfl⟩)
      exact ⟨rfl, rfl, HB.out⟩
    · have h9' : s = 0 ∨ s = 3 ∨ s = 5 ∨ s = 6 ∨ s = 7 := by omega
      clear a1 a2 a3 a4 h0 h9 h0'
      rcases h9' with rfl | rfl | rfl | rfl | rfl
      all_goals
        clear hs
        go_enter Try.func69, Try.ntmps69
        go_wp2_with (go_at_call 101; refine (sizes_any _).mono ?_; rintro e w' ⟨rfl, rfl⟩)
        exact ⟨rfl, rfl, HB.out⟩

theorem check_112 (A : Option Addr) (n c : Nat) (t s : Int) (w : World) (hn : n ≤ 1000000) (ht : -9223372036854775808 ≤ t) (ht2 : t ≤ 9223372036854775807) (hs : okSz s = true) (hb : ¬ (0 ≤ t ∧ t + s ≤ n)) :
    Calls Try.prog 69 #[.slice A n c, .int .i64 t, .int .i64 s] w fun e w' => e = thrown 112 ∧ Below w.heap.size w w' := by
  have hbl : Below w.heap.size w ((w.alloc (.cells szs 109)).alloc (.cells szs 109)) := ((Below.refl _ _).alloc (Nat.le_refl _) _).alloc (by simp) _
  have HB := Lib.hid hbl
  clear hbl
  by_cases h0 : t < 0
  · have h0' : decide (t < 0) = true := by simpa using h0
    rcases place_size s hs with rfl | rfl | rfl | rfl
    all_goals
      clear hs hb
      go_enter Try.func69, Try.ntmps69
      go_wp2_with (go_at_call 101; refine (sizes_any _).mono ?_; rintro e w' ⟨rfl, rfl⟩)
      exact ⟨rfl, rfl, HB.out⟩
  · have h0' : decide (t < 0) = false := by simpa using h0
    have h1 : n - s < t := by omega
    clear hb
    rcases place_size s hs with rfl | rfl | rfl | rfl
    all_goals
      clear hs
      go_enter Try.func69, Try.ntmps69
      go_wp2_with (go_at_call 101; refine (sizes_any _).mono ?_; rintro e w' ⟨rfl, rfl⟩)
      exact ⟨rfl, rfl, HB.out⟩

theorem check_0 (A : Option Addr) (n c : Nat) (t s : Int) (w : World) (hn : n ≤ 1000000) (hs : okSz s = true) (h0 : 0 ≤ t) (h1 : t + s ≤ n) :
    Calls Try.prog 69 #[.slice A n c, .int .i64 t, .int .i64 s] w fun e w' => e = .returned (.tuple #[]) ∧ Below w.heap.size w w' := by
  have hbl : Below w.heap.size w ((w.alloc (.cells szs 109)).alloc (.cells szs 109)) := ((Below.refl _ _).alloc (Nat.le_refl _) _).alloc (by simp) _
  have HB := Lib.hid hbl
  clear hbl
  have h0' : decide (t < 0) = false := by simpa using h0
  rcases place_size s hs with rfl | rfl | rfl | rfl
  all_goals
    clear hs
    go_enter Try.func69, Try.ntmps69
    go_wp2_with (go_at_call 101; refine (sizes_any _).mono ?_; rintro e w' ⟨rfl, rfl⟩)
    go_end0
    exact ⟨rfl, HB.out⟩
end Go.Proofs.Ytbfegghkipoppaa
namespace Go.Proofs.Ytbfegghkipoppaa
set_option maxRecDepth 100000
open Go.RowKit Go.Shelf

theorem Bk.frozen {w : World} {g : Nat} {t : TypeId} {cs : List Value} (h : Bk w g t cs) (i : Nat) : w.frozen? ⟨g, i, none⟩ = false := frozen_of_row w g i _ t h
theorem catch_idle (p : Addr) (w : World) :
    CallsD Try.prog 100 #[.pointer (some p)] .returning w fun e u' w' => e = .returned (.tuple #[]) ∧ u' = .returning ∧ w' = w := by
  refine callsD_of_wpS Try.func100 rfl fun c₀ cs hu => ?_
  apply wpS_seq
  apply wpS_region
  simp [wpOpsS, go_sem, recoverD, hu, Try.ntmps100, Exit.thenS]
  refine wpS_of_wp ?_
  simp [Array.replicate]
  go_wp2
  cases c₀
  simp_all [bodyPostS, results, Try.results100]
theorem catch_err (p : Addr) (x y : Int) (w : World) (hc : w.cell? p = some (.int .i64 y)) (hz : w.frozen? p = false) :
    CallsD Try.prog 100 #[.pointer (some p)] (.panicking [{ v := .iface 27 (.int .i64 x), recovered := false }]) w fun e u' w' => e = .returned (.tuple #[]) ∧ u' = .panicking [{ v := .iface 27 (.int .i64 x), recovered := true }] ∧ w' = w.setCell p (.int .i64 x) := by
  refine callsD_of_wpS Try.func100 rfl fun c₀ cs hu => ?_
  apply wpS_seq
  apply wpS_region
  simp [wpOpsS, go_sem, recoverD, hu, Try.ntmps100, Exit.thenS]
  refine wpS_of_wp ?_
  simp [Array.replicate]
  have hta : ∀ (w : World) (x : Int), (Instr.typeAssert (.iface 27 (.int .i64 x)) 20 27 true).run Try.prog w = .ok (.tuple #[.int .i64 x, .bool true]) w := fun _ _ => by kernel_rfl
  go_wp2
  cases c₀
  simp_all [bodyPostS, results, Try.results100]
theorem caught_ret (f : Nat) (caps : Array Value) (w : World) (R : World → Prop) (hent : ∀ args w, (callFunc f args).run Try.prog w = .ok (.enter f args) w)
    (h : Calls Try.prog f caps (w.alloc (.cells #[.int .i64 0] 27)) fun e w' => e = .returned (.tuple #[]) ∧ R w' ∧ Bk w' w.heap.size 27 [.int .i64 0]) :
    Calls Try.prog 67 #[.func (.func f) #[] caps] w fun e w' => e = .returned (.int .i64 0) ∧ ∃ w1, R w1 ∧ w' = w1.setCell ⟨w.heap.size, 0, none⟩ (.int .i64 0) := by
  have hmf : ∀ (fn : Fn) (first cap : Array Value) (w : World), (Instr.makeFunc fn first cap).run Try.prog w = .ok (.func fn first cap) w := fun _ _ _ _ => rfl
  have H := Lib.hid h
  clear h
  go_enter_defers Try.func67, Try.ntmps67
  go_wp2
  refine H.out.mono ?_
  rintro e w1 ⟨rfl, hR, hk⟩
  have hc : w1.cell? ⟨w.heap.size, 0, none⟩ = some (.int .i64 0) := by rw [hk.cell]; rfl
  have hf : w1.frozen? ⟨w.heap.size, 0, none⟩ = false := hk.frozen 0
  clear hk
  go_wp2
  refine leaves_cons (f := 100) (args := #[.pointer (some ⟨w.heap.size, 0, none⟩)]) (by simp) (by simp [go_sem]) ?_
  refine (catch_idle ⟨w.heap.size, 0, none⟩ _).mono ?_
  rintro e u' w'' ⟨rfl, rfl, rfl⟩
  simp [Leaves, settle, results, Try.results67, go_sem, hc]
  exact ⟨_, hR, rfl⟩
theorem caught_throw (f : Nat) (caps : Array Value) (x : Int) (w : World) (R : World → Prop) (hent : ∀ args w, (callFunc f args).run Try.prog w = .ok (.enter f args) w)
    (h : Calls Try.prog f caps (w.alloc (.cells #[.int .i64 0] 27)) fun e w' => e = thrown x ∧ R w' ∧ Bk w' w.heap.size 27 [.int .i64 0]) :
    Calls Try.prog 67 #[.func (.func f) #[] caps] w fun e w' => e = .returned (.int .i64 x) ∧ ∃ w1, R w1 ∧ w' = w1.setCell ⟨w.heap.size, 0, none⟩ (.int .i64 x) := by
  have hmf : ∀ (fn : Fn) (first cap : Array Value) (w : World), (Instr.makeFunc fn first cap).run Try.prog w = .ok (.func fn first cap) w := fun _ _ _ _ => rfl
  have H := Lib.hid h
  clear h
  go_enter_defers Try.func67, Try.ntmps67
  go_wp2
  refine H.out.mono ?_
  rintro e w1 ⟨rfl, hR, hk⟩
  have hc : w1.cell? ⟨w.heap.size, 0, none⟩ = some (.int .i64 0) := by rw [hk.cell]; rfl
  have hf : w1.frozen? ⟨w.heap.size, 0, none⟩ = false := hk.frozen 0
  clear hk
  unfold thrown
  refine leaves_cons (f := 100) (args := #[.pointer (some ⟨w.heap.size, 0, none⟩)]) (by simp) (by simp [go_sem]) ?_
  refine (catch_err ⟨w.heap.size, 0, none⟩ x 0 _ hc hf).mono ?_
  rintro e u' w'' ⟨rfl, rfl, rfl⟩
  simp [Leaves, settle, results, Try.results67, go_sem, hc]
  exact ⟨_, hR, rfl⟩
end Go.Proofs.Ytbfegghkipoppaa
namespace Go.Proofs.Ytbfegghkipoppaa
set_option maxRecDepth 100000
open Go.RowKit Go.Shelf

attribute [local go_sem] Oper.semAt_some

/-- Two blocks lie as they lay. -/
def Kp2 (a b : Nat) (W W' : World) : Prop := W'.heap[a]? = W.heap[a]? ∧ W'.heap[b]? = W.heap[b]?

/-- What has come when k rounds are over. -/
def upto (s : Nat) (k : Nat) : List (Fin s) := (List.finRange s).take k
theorem upto_succ (s : Nat) {k : Nat} (hk : k < s) : upto s (k + 1) = upto s k ++ [⟨k, hk⟩] := by
  unfold upto
  rw [List.take_succ_eq_append_getElem (by simpa using hk)]
  simp
theorem upto_all (s : Nat) : upto s s = List.finRange s := by unfold upto; rw [List.take_of_length_le (by simp)]
theorem upto_len (s k : Nat) (hk : k ≤ s) : (upto s k).length = k := by simp [upto, hk]

def encP (t : Int) (s : Nat) (i : Fin s) : Array Value := #[.int .i64 (t + (i.1 : Int)), .int .i64 (8 * ((s : Int) - 1 - (i.1 : Int)))]

set_option maxRecDepth 100000 in
set_option maxHeartbeats 2000000 in
theorem places1_in (F : Fence) (n : Nat) (h29 : F.fn 102) (hro : F.round = none) (hn : 1 ≤ n) (l bs bt : Nat) (t : Int) (s : Nat) (hs : s ≤ 8) (ht0 : 0 ≤ t) (ht : t ≤ 1000000) (J Jx : List (Fin s) → World → Prop)
    (hY : ∀ pre x W, J pre W → pre.length < s → YieldAt F (n - 1) Try.prog l (encP t s x) W fun e W' =>
      (e = .returned (.bool true) ∧ J (pre ++ [x]) W' ∧ Kp2 bs bt W W') ∨ (e = .returned (.bool false) ∧ Jx (pre ++ [x]) W'))
    (W : World) (hbs : Bk W bs 3 [.int .i64 s]) (hbt : Bk W bt 2 [.int .i64 t]) (h0 : J [] W) :
    CallsIn F n Try.prog 102 #[.func (.yield l) #[] #[], .pointer (some ⟨bs, 0, none⟩), .pointer (some ⟨bt, 0, none⟩)] W fun e W' => (∃ v, e = .returned v) ∧
      ((∃ ys, ys = List.finRange s ∧ J ys W') ∨ (∃ pre, (∃ k, k ≤ s ∧ pre = upto s k) ∧ Jx pre W')) := by
  have c1 : W.cell? ⟨bs, 0, none⟩ = some (.int .i64 s) := by rw [hbs.cell]; rfl
  refine callsIn_of_wp Try.func102 rfl h29 ?_ hro
  simp only [Try.ntmps102, List.size_toArray, List.length_cons, List.length_nil, Nat.reduceAdd, Nat.reduceSub, Array.replicate_succ, Array.replicate_zero, List.push_toArray, List.append_toArray, List.nil_append, List.cons_append]
  gi_wp2
  gi_loopw [4, 6] (fun _ i wr => ∃ k : Nat, k ≤ s ∧ i = .int .i64 k ∧ J (upto s k) wr ∧ Bk wr bs 3 [.int .i64 s] ∧ Bk wr bt 2 [.int .i64 t])
    (fun _ i _ => s - (intOf i).toNat)
  case atStart => exact ⟨0, Nat.zero_le _, rfl, by simpa [upto] using h0, hbs, hbt⟩
  case round =>
    obtain ⟨k, hk, rfl, hJs, hbs', hbt'⟩ := hrel
    clear c1
    have c1 : wr.cell? ⟨bs, 0, none⟩ = some (.int .i64 s) := by rw [hbs'.cell]; rfl
    have c2 : wr.cell? ⟨bt, 0, none⟩ = some (.int .i64 t) := by rw [hbt'.cell]; rfl
    by_cases hlt : k < s
    · obtain ⟨fn, tmps, assign, body, hy, hR⟩ := hY _ ⟨k, hlt⟩ wr hJs (by rw [upto_len _ _ hk]; exact hlt)
      simp only [encP] at hy
      gi_wp2
      refine hR.mono ?_
      rintro e W3 (⟨rfl, hJ3, hk3⟩ | ⟨rfl, hJx3⟩)
      · gi_wp2
        go_roundw
        case rel => exact ⟨k + 1, by omega, by simp, by rw [upto_succ _ hlt]; exact hJ3, hk3.1.trans hbs', hk3.2.trans hbt'⟩
        case measure => simp [intOf]; omega
      · gi_wp2
        refine bodyPost_ret (results_none rfl _ _ _) rfl ?_
        exact ⟨⟨_, rfl⟩, .inr ⟨_, ⟨k + 1, by omega, (upto_succ _ hlt).symm⟩, hJx3⟩⟩
    · obtain rfl : k = s := by omega
      gi_wp2
      go_end0
      exact ⟨⟨_, rfl⟩, .inl ⟨_, (upto_all _), hJs⟩⟩
end Go.Proofs.Ytbfegghkipoppaa
namespace Go.Proofs.Ytbfegghkipoppaa
set_option maxRecDepth 100000

variable {P : Program} {ops : Array Oper} {Q : Exit → Act → World → Prop} {md : Region.Mode}

theorem uponIn_round (l n : Nat) {o : Oper} {a : Act} {K : Act → World → Prop} {r : Result Next} (h : o.upon P a K Q r) : o.uponIn (Fence.wide.inRound l) n P a K Q r := by
  cases r with
  | ok x w' =>
    cases x <;> simp only [Oper.upon] at h <;> simp only [Oper.uponIn]
    case value => exact h
    case skip => exact h
    case defer => exact h
    case enter f args => exact ⟨fun e => (by cases e), CallsIn.inRound l (callsIn_wide.2 h)⟩
    case row row args => exact ⟨fun e => (by cases e), fun c cs _ => let ⟨v, w', r, s⟩ := h c cs; ⟨v, w', r, stepsIn_wide.2 s⟩⟩
  | halt x w' => cases x <;> simp only [Oper.upon] at h <;> simp only [Oper.uponIn] <;> exact h

theorem wpAnyIn_round (l n : Nat) (hd : ∀ (i : Nat) (o : Oper) c, ops[i]? = some o → o.op ≠ .defer c) (hQ : ¬ LetsOut Q) : ∀ (fuel : Nat) (listed : Array Bool) (a : Act) (w : World),
    wpAny P md ops Q fuel listed a w → wpAnyIn (Fence.wide.inRound l) n P md ops Q fuel listed a w
  | 0, _, _, _, h => h
  | fuel + 1, listed, a, w, h => by
    refine ⟨h.1, fun i hi => ?_⟩
    have h2 := h.2 i hi
    unfold wpOp at h2
    unfold wpOpIn
    cases ho : ops[i]? with
    | none =>
      simp only [ho] at h2
      exact wpAnyIn_round l n hd hQ fuel _ _ _ h2
    | some o =>
      simp only [ho] at h2 ⊢
      by_cases hw : Region.wanted o (yielded ops a.tmps) = true
      · simp only [hw, if_true] at h2 ⊢
        rcases h2 with h2 | h2
        · refine Oper.wpIn_mono (fun a' w' h' => wpAnyIn_round l n hd hQ fuel _ a' w' h') ⟨fun _ _ => trivial, ?_⟩
          rw [Oper.semAt_eq _ _ _ (fun c => hd i o c ho)]
          exact uponIn_round l n h2
        · exact absurd h2.2 hQ
      · simp only [hw] at h2 ⊢
        exact ⟨fun _ _ => trivial, wpAnyIn_round l n hd hQ fuel _ _ _ h2⟩

def noDefer (ops : Array Oper) : Bool := ops.all fun o => match o.op with | .defer _ => false | _ => true
theorem noDefer_spec (h : noDefer ops = true) : ∀ (i : Nat) (o : Oper) c, ops[i]? = some o → o.op ≠ .defer c := by
  intro i o c hi e
  obtain ⟨hlt, he⟩ := Array.getElem?_eq_some_iff.1 hi
  have := Array.all_eq_true.1 h i hlt
  rw [he, e] at this
  cases this

/-- n operations that only read, in whatever order, then the others one by one. -/
theorem round_still_tail {id : Nat} {a : Act} {w : World} {ls : List Oper} (l m : Nat) (n : Nat) (hm : P.follows .mixedOrders = true) (hB : Region.lexTailB .any ls.toArray n = true) (hd : noDefer ls.toArray = true) (hQ : ¬ LetsOut Q)
    (h : wpStill P ls.toArray w.drew (fun a' => wpList P ls.toArray Q (ls.drop n) a' w.drew) (ls.take n) a) : (Code.region id ls.toArray true).wpIn (Fence.wide.inRound l) m P Q a w := by
  simp only [Region.lexTailB, Bool.and_eq_true, decide_eq_true_eq] at hB
  obtain ⟨⟨⟨⟨hsel, hn⟩, hs⟩, hc⟩, hlex⟩ := hB
  have hn' : n < ls.length := by simpa using hn
  have t1 : (ls.take n).length = n := by simp; omega
  have t2 : (ls.drop n).length = ls.toArray.size - n := by simp
  have inv : HeadInv .any ls.toArray n (Array.replicate ls.toArray.size false) :=
    ⟨by simp, fun j oj _ hl => (by rw [getD_replicate_false] at hl; cases hl), fun t _ ht => getD_in (by simpa using ht) (getD_replicate_false _ _)⟩
  have H := wpAnyL_lex (md := .any) (g := ls.toArray.size - n) hsel hs hc hn (ls.take n) 0 _ a (fun j hj => by
    have hj' : j < n := by rw [t1] at hj; exact hj
    simp [hj']) (by simpa using t1) inv (by rw [t1]; exact hlex) h
  have T := wpAny_of_head (Q' := Q) (g := ls.toArray.size - n) (fun listed a' hL => by
    have := wpAny_of_seq (md := .any) (Q' := Q) (ls.drop n) n listed a' { w with drawn := w.drawn + 1 } (fun j => by simp [List.getElem?_drop]) (by rw [t2]; exact hL.1) hL.2
    rwa [t2] at this) _ _ _ H
  rw [t1, show n + (ls.toArray.size - n) = ls.toArray.size by omega] at T
  exact wpIn_region_any hm (wpAnyIn_round l m (noDefer_spec hd) hQ _ _ _ _ T)
end Go.Proofs.Ytbfegghkipoppaa
namespace Go.Proofs.Ytbfegghkipoppaa
set_option maxRecDepth 100000
open Go.RowKit Go.Shelf

attribute [local go_sem] Oper.semAt_some

theorem Bk.new (w : World) (t : TypeId) (cs : List Value) : Bk (w.alloc (.cells cs.toArray t)) w.heap.size t cs := heap_alloc_new w _
theorem Bk.lt {w : World} {g : Nat} {t : TypeId} {cs : List Value} (h : Bk w g t cs) : g < w.heap.size := (Array.getElem?_eq_some_iff.1 h).1
theorem Bk.below {w w' : World} {g B : Nat} {t : TypeId} {cs : List Value} (h : Bk w g t cs) (hb : Below B w w') (hg : g < B) : Bk w' g t cs := (hb.block g hg).trans h
theorem Bk.alloc {w : World} {g : Nat} {t : TypeId} {cs : List Value} (h : Bk w g t cs) (o : Obj) : Bk (w.alloc o) g t cs := (Below.heap_alloc w o g h.lt).trans h
theorem Bk.grown {w w' : World} {g : Nat} {t : TypeId} {cs : List Value} {row : Option Nat} (h : Bk w g t cs) (hb : w.grownBy w' row) (hg : some g ≠ row) : Bk w' g t cs := (hb.block g h.lt hg).trans h
theorem Bk.set {w : World} {g : Nat} {t : TypeId} {cs : List Value} (h : Bk w g t cs) (i : Nat) (u : Value) : Bk (w.setCell ⟨g, i, none⟩ u) g t (cs.set i u) := by
  have := heap_setCell_same w g i cs.toArray t u h
  unfold Bk
  rw [this]
  simp
theorem Bk.far {w : World} {g : Nat} {t : TypeId} {cs : List Value} (h : Bk w g t cs) {p : Addr} (hp : g ≠ p.block) (u : Value) : Bk (w.setCell p u) g t cs := (Below.heap_setCell w p u g hp).trans h

theorem gr_trans {a b c : World} {row : Option Nat} (h : a.grownBy b row) (k : b.grownBy c row) : a.grownBy c row :=
  ⟨k.os.trans h.os, k.tape.trans h.tape, k.output.trans h.output, Nat.le_trans h.size k.size, fun i hi hn => (k.block i (Nat.lt_of_lt_of_le hi h.size) hn).trans (h.block i hi hn)⟩
theorem gr_below {a b : World} (h : Below a.heap.size a b) (row : Option Nat) : a.grownBy b row := ⟨h.os, h.tape, h.output, h.size, fun i hi _ => h.block i hi⟩
theorem gr_far {a b c : World} {row : Option Nat} (h : a.grownBy b row) {r : Option Nat} (k : b.grownBy c r) (hr : ∀ j, r = some j → a.heap.size ≤ j) : a.grownBy c row :=
  ⟨k.os.trans h.os, k.tape.trans h.tape, k.output.trans h.output, Nat.le_trans h.size k.size, fun i hi hn => (k.block i (Nat.lt_of_lt_of_le hi h.size) (fun e => by have := hr i e.symm; omega)).trans (h.block i hi hn)⟩
theorem gr_set {a b : World} {g : Nat} (h : a.grownBy b (some g)) {p : Addr} (hp : p.block = g) (u : Value) : a.grownBy (b.setCell p u) (some g) :=
  ⟨h.os, h.tape, h.output, by simpa [World.setCell] using h.size, fun i hi hn => (Below.heap_setCell b p u i (fun e => hn (by rw [e, hp]))).trans (h.block i hi hn)⟩
theorem gr_drew {a b : World} {row : Option Nat} (h : a.grownBy b row) : a.grownBy b.drew row := ⟨h.os, h.tape, h.output, h.size, h.block⟩

theorem places_in (F : Fence) (n : Nat) (h23 : F.fn 70) (hro : F.round = none) (t s : Int) (w : World) :
    CallsIn F n Try.prog 70 #[.int .i64 t, .int .i64 s] w fun e w' => e = .returned (.func (.func 102) #[] #[.pointer (some ⟨w.heap.size + 1, 0, none⟩), .pointer (some ⟨w.heap.size, 0, none⟩)]) ∧ w' = (w.alloc (.cells #[.int .i64 t] 2)).alloc (.cells #[.int .i64 s] 3) := by
  refine callsIn_of_wp Try.func70 rfl h23 ?_ hro
  simp only [Try.ntmps70, List.size_toArray, List.length_cons, List.length_nil, Nat.reduceAdd, Nat.reduceSub, Array.replicate_succ, Array.replicate_zero, List.push_toArray, List.append_toArray, List.nil_append, List.cons_append]
  gi_wp2
  go_ret
  exact ⟨rfl, rfl⟩

theorem places_stops (F : Fence) (n : Nat) (h29 : F.fn 102) (hro : F.round = none) (hn : 1 ≤ n) (bs bt : Nat) (t : Int) (s : Nat) (hs : s ≤ 8) (ht0 : 0 ≤ t) (ht : t ≤ 1000000) (w : World) (hbs : Bk w bs 3 [.int .i64 s]) (hbt : Bk w bt 2 [.int .i64 t]) :
    SeqStopsK F n Try.prog 102 #[.pointer (some ⟨bs, 0, none⟩), .pointer (some ⟨bt, 0, none⟩)] (encP t s) (Kp2 bs bt) (fun ys => ys = List.finRange s) (fun pre => ∃ k, k ≤ s ∧ pre = upto s k) s w := fun l J Jx W hW _ _ hY h0 =>
  places1_in F n h29 hro hn l bs bt t s hs ht0 ht J Jx hY W (hbs.below hW hbs.lt) (hbt.below hW hbt.lt) h0

theorem kp2_t {a b : Nat} {A B C : World} (h : Kp2 a b A B) (k : Kp2 a b B C) : Kp2 a b A C := ⟨k.1.trans h.1, k.2.trans h.2⟩
theorem kp2_b {a b : Nat} {w : World} (ha : a < w.heap.size) (hb : b < w.heap.size) (W : World) (l : Nat) (o o' : Obj) (hl : w.heap.size ≤ l) (_ : W.heap[l]? = some o) (_ : o.isCells = false) (_ : o.isWalk = false) : Kp2 a b W (W.putObj l o') :=
  ⟨World.putObj_heap_other (by omega), World.putObj_heap_other (by omega)⟩

/-- The number as it stands behind the rounds of pre. -/
def orStep (acc y up : Int) : Int := bits BinOp.or .u64 acc (IntKind.u64.wrap (IntKind.u64.wrap y * 2 ^ up.toNat))
def orF (xs : List Int) (p s : Nat) (pre : List (Fin s)) : Int := pre.foldl (fun acc i => orStep acc (xs[p + i.1]?.getD 0) (8 * ((s : Int) - 1 - (i.1 : Int)))) 0
theorem orF_snoc (xs : List Int) (p s : Nat) (pre : List (Fin s)) (i : Fin s) {y : Int} (hy : xs[p + i.1]? = some y) : orF xs p s (pre ++ [i]) = orStep (orF xs p s pre) y (8 * ((s : Int) - 1 - (i.1 : Int))) := by simp [orF, hy]

set_option maxRecDepth 100000 in
set_option maxHeartbeats 2000000 in
theorem get1_0 (g0 g1 g2 g3 : Nat) (A : Option Addr) (c : Nat) (xs : List Int) (p s B : Nat) (w : World)
    (b0 : Bk w g0 23 [.slice A xs.length c]) (b1 : Bk w g1 2 [.int .i64 p]) (b2 : Bk w g2 3 [.int .i64 s]) (b3 : Bk w g3 28 [.int .u64 0])
    (ha : Rd w B A c (u8s xs)) (hB : B ≤ g3) (n1 : g0 ≠ g3) (hx : Bytes xs) (hn : xs.length ≤ 1000000) (hs : okSz s = true) (h1 : p + s ≤ xs.length) :
    Calls Try.prog 68 #[.pointer (some ⟨g0, 0, none⟩), .pointer (some ⟨g1, 0, none⟩), .pointer (some ⟨g2, 0, none⟩), .pointer (some ⟨g3, 0, none⟩)] w fun e w' =>
      e = .returned (.tuple #[]) ∧ Bk w' g3 28 [.int .u64 (orF xs p s (List.finRange s))] ∧ w.grownBy w' (some g3) := by
  have c0 : w.cell? ⟨g0, 0, none⟩ = some (.slice A xs.length c) := by rw [b0.cell]; rfl
  have c1 : w.cell? ⟨g1, 0, none⟩ = some (.int .i64 p) := by rw [b1.cell]; rfl
  have c2 : w.cell? ⟨g2, 0, none⟩ = some (.int .i64 s) := by rw [b2.cell]; rfl
  have hs8 : s ≤ 8 := by have := place_size s hs; omega
  refine (callsIn_wide (n := 3)).1 ?_
  refine callsIn_of_wp_marks Try.func68 rfl trivial ?_ rfl
  simp only [Try.ntmps68, List.size_toArray, List.length_cons, List.length_nil, Nat.reduceAdd, Nat.reduceSub, Array.replicate_succ, Array.replicate_zero, List.push_toArray, List.append_toArray, List.nil_append, List.cons_append]
  gi_wp2_with (first
    | (refine ⟨trivial, ?_⟩; gi_at_call 69; refine (callsIn_wide.2 (check_0 A xs.length c p s _ hn hs (by omega) (by omega))).mono ?_; rintro e w1 ⟨rfl, hb1⟩; have c1 : w1.cell? ⟨g1, 0, none⟩ = some (.int .i64 p) := by { rw [(b1.below hb1 b1.lt).cell]; rfl }; have c2 : w1.cell? ⟨g2, 0, none⟩ = some (.int .i64 s) := by { rw [(b2.below hb1 b2.lt).cell]; rfl })
    | (refine ⟨trivial, ?_⟩; gi_at_call 70; refine (places_in Fence.wide _ trivial rfl _ _ _).mono ?_; rintro e w2 ⟨rfl, rfl⟩))
  have hz := hb1.size
  have hg3 := b3.lt
  have nb1 := Bk.new w1 2 [.int .i64 p]
  have nb2 := Bk.new (w1.alloc (.cells #[.int .i64 p] 2)) 3 [.int .i64 s]
  rw [World.size_alloc] at nb2
  have hB2 : Below w.heap.size w ((w1.alloc (.cells #[.int .i64 p] 2)).alloc (.cells #[.int .i64 s] 3)) := (hb1.alloc (by omega) _).alloc (by simp; omega) _
  refine wpIn_rangeFunc_ownF rfl (by omega) (gf := 102) (lb := #[.pointer (some ⟨w1.heap.size + 1, 0, none⟩), .pointer (some ⟨w1.heap.size, 0, none⟩)]) rfl trivial (enters_of Try.func102 (by kernel_rfl) rfl)
    (places_stops Fence.wide (3 - 1) trivial rfl (by omega) (w1.heap.size + 1) w1.heap.size p s hs8 (by omega) (by omega) _ nb2 (nb1.alloc _)) kp2_t (kp2_b (by simp) (by simp; omega)) (Below.refl _ _) (fun _ => rfl)
    (fun pre W => Bk W g3 28 [.int .u64 (orF xs p s pre)] ∧ w.grownBy W (some g3))
    (fun _ _ _ => False)
    (fun s A B row hs hg hr => ⟨hs.1.grown hg (fun e => by have := (hr g3 e.symm).1; simp at this; omega), gr_far hs.2 hg (fun j e => by have := (hr j e).1; simp at this; omega)⟩)
    (fun _ _ _ _ _ hs _ _ => hs)
    ⟨b3.below hB2 b3.lt, gr_below hB2 _⟩
    (fun x => { tmps := #[.pointer (some ⟨g0, 0, none⟩), .pointer (some ⟨g1, 0, none⟩), .pointer (some ⟨g2, 0, none⟩), .pointer (some ⟨g3, 0, none⟩), .int .i64 (p + (x.1 : Int)), .int .i64 (8 * ((s : Int) - 1 - (x.1 : Int))), .slice A xs.length c, .int .i64 p, .int .i64 s, .tuple #[], .int .i64 p, .int .i64 s, .func (.func 102) #[] #[.pointer (some ⟨w1.heap.size + 1, 0, none⟩), .pointer (some ⟨w1.heap.size, 0, none⟩)], .int .i64 (p + (x.1 : Int)), .int .i64 (8 * ((s : Int) - 1 - (x.1 : Int))), undef, undef, undef, undef, undef, undef, undef, undef, undef], defers := [] }) ?assign ?body ?done ?stop
  case assign =>
    intro l x W K hK
    simp only [encP]
    gi_wp2
    exact hK
  case body =>
    rintro l pre ⟨x, hxs⟩ W ⟨hb3, hgr⟩ _
    have d0 : W.cell? ⟨g0, 0, none⟩ = some (.slice A xs.length c) := by rw [(b0.grown hgr (by simp [n1])).cell]; rfl
    have d3 : W.cell? ⟨g3, 0, none⟩ = some (.int .u64 (orF xs p s pre)) := by rw [hb3.cell]; rfl
    have f3 : W.frozen? ⟨g3, 0, none⟩ = false := hb3.frozen 0
    obtain ⟨a, y, rfl, hab, ca, hy⟩ := ha.at_ (k := p + x) (by omega)
    have da : W.cell? (a.add (p + x)) = some (.int .u8 y) := by
      rw [← ca]
      exact World.cell?_of_block (hgr.block _ (by rw [add_blk]; omega) (by rw [add_blk]; intro e; injection e with e; omega))
    have hyb := hx.at_ hy.out
    clear c0 ca b0 b1 b2 ha
    have HS := Lib.hid (orF_snoc xs p s pre ⟨x, hxs⟩ hy.out)
    have i1 : (0 : Int) ≤ (p : Int) + x := by omega
    have i2 : (p : Int) + x < xs.length := by omega
    have i3 : ((p : Int) + x).toNat = p + x := by omega
    have i4 : 0 ≤ 8 * ((s : Int) - 1 - (x : Int)) := by omega
    have i5 : ¬ 8 * ((s : Int) - 1 - (x : Int)) < 0 := by omega
    clear h1 hn hs hyb
    gi_wp2
    refine round_still_tail l _ 9 (by kernel_rfl) (by kernel_rfl) (by kernel_rfl) (by rintro ⟨_, _, h⟩; exact h) ?_
    simp only [List.take_succ_cons, List.take_zero, List.drop_succ_cons, List.drop_zero]
    repeat still_step
    refine wpStill_nil ?_
    go_wp2
    have hv : orStep (orF xs p s pre) y (8 * ((s : Int) - 1 - (x : Int))) = bits BinOp.or .u64 (orF xs p s pre) (IntKind.u64.wrap (IntKind.u64.wrap y * 2 ^ (8 * (s - 1 - x)))) := by
      unfold orStep; rw [show (8 * ((s : Int) - 1 - (x : Int))).toNat = 8 * (s - 1 - x) by omega]
    rw [← hv]
    exact ⟨(KeepsOthers.setCell _ _ _).trans (KeepsOthers.drew _), ⟨Below.heap_setCell _ _ _ _ (by simp; omega), Below.heap_setCell _ _ _ _ (by simp; omega)⟩, by rw [HS.out]; exact hb3.set 0 _, gr_drew (gr_set hgr rfl _)⟩
  case done =>
    rintro D ys W hD rfl ⟨hb3, hgr⟩ hK
    gi_wp2
    have hDz : w1.heap.size + 1 + 1 ≤ D := by simpa using hD
    refine ⟨by simp, .inl ⟨_, _, rfl, run_takeDeferred hK, ?_⟩⟩
    have hg := grownBy_putObj' W D (.deferred none)
    exact ⟨_, results_none rfl _ _ _, rfl, hb3.grown hg (fun e => by injection e with e; omega), gr_far hgr hg (fun j e => by injection e with e; omega)⟩
  case stop =>
    rintro D c pre W _ _ h _
    exact h.elim
end Go.Proofs.Ytbfegghkipoppaa
namespace Go.Proofs.Ytbfegghkipoppaa
set_option maxRecDepth 100000
open Go.RowKit Go.Shelf

theorem or_nat (G y m : Nat) (hy : y < 256) : G * 256 ^ (m + 1) ||| y * 256 ^ m = (256 * G + y) * 256 ^ m := by
  have h1 : 256 ^ m = 2 ^ (8 * m) := by rw [Nat.pow_mul]
  have h2 : 2 ^ 8 * G + y = 2 ^ 8 * G ||| y := Nat.two_pow_add_eq_or_of_lt (by omega) G
  rw [Nat.pow_succ, h1, show G * (2 ^ (8 * m) * 256) = (2 ^ 8 * G) * 2 ^ (8 * m) by ac_rfl, ← Nat.shiftLeft_eq, ← Nat.shiftLeft_eq, ← Nat.shiftLeft_or_distrib, ← h2, Nat.shiftLeft_eq]
theorem or_int (G y m : Nat) (hy : y < 256) (hb : (256 * G + y) * 256 ^ m < 18446744073709551616) :
    bits BinOp.or .u64 ((G * 256 ^ (m + 1) : Nat) : Int) (IntKind.u64.wrap (IntKind.u64.wrap (y : Int) * 2 ^ (8 * m))) = (((256 * G + y) * 256 ^ m : Nat) : Int) := by
  have h1 : 256 ^ m = 2 ^ (8 * m) := by rw [Nat.pow_mul]
  have ha : G * 256 ^ (m + 1) < 18446744073709551616 := by
    refine Nat.lt_of_le_of_lt ?_ hb
    rw [Nat.pow_succ, show G * (256 ^ m * 256) = 256 * G * 256 ^ m by ac_rfl]
    exact Nat.mul_le_mul_right _ (by omega)
  have hc : y * 256 ^ m < 18446744073709551616 := Nat.lt_of_le_of_lt (Nat.mul_le_mul_right _ (by omega)) hb
  have hw : IntKind.u64.wrap (IntKind.u64.wrap (y : Int) * 2 ^ (8 * m)) = ((y * 256 ^ m : Nat) : Int) := by
    have e1 : IntKind.u64.wrap (y : Int) = (y : Int) := by rw [IntKind.wrap_u64]; omega
    have e2 : (y : Int) * 2 ^ (8 * m) = ((y * 256 ^ m : Nat) : Int) := by rw [h1]; simp
    rw [e1, e2, IntKind.wrap_u64]
    omega
  rw [hw, u64_or_nat _ _ ha hc, or_nat G y m hy]

theorem orF_upto {xs : List Int} (hx : Bytes xs) (p s : Nat) (hs : s ≤ 8) (h1 : p + s ≤ xs.length) : ∀ k, k ≤ s → orF xs p s (upto s k) = getN xs p k * 256 ^ (s - k)
  | 0, _ => by simp [orF, upto, getN]
  | k + 1, hk => by
    have ih := orF_upto hx p s hs h1 k (by omega)
    have hy : xs[p + k]? = some xs[p + k] := List.getElem?_eq_getElem (by omega)
    have hb := hx.at_ hy
    have hG := getN_bound hx p k
    rw [upto_succ s (by omega), orF_snoc xs p s _ ⟨k, by omega⟩ hy, ih]
    simp only [getN, hy, Option.getD_some]
    obtain ⟨G, hGe⟩ := Int.eq_ofNat_of_zero_le hG.1
    obtain ⟨y, hye⟩ := Int.eq_ofNat_of_zero_le hb.1
    have hy2 : y < 256 := by omega
    have e1 : G < 256 ^ k := by
      have h2 : (G : Int) < ((256 ^ k : Nat) : Int) := by rw [Int.natCast_pow, ← hGe]; exact hG.2
      exact Int.ofNat_lt.1 h2
    rw [hGe, hye]
    obtain ⟨m, hm⟩ : ∃ m, s - k = m + 1 := ⟨s - k - 1, by omega⟩
    have hbd : (256 * G + y) * 256 ^ m < 18446744073709551616 := by
      have e2 : 256 * G + y < 256 ^ (k + 1) := by rw [Nat.pow_succ]; omega
      calc (256 * G + y) * 256 ^ m < 256 ^ (k + 1) * 256 ^ m := Nat.mul_lt_mul_of_pos_right e2 (Nat.pow_pos (by omega))
        _ = 256 ^ s := by rw [← Nat.pow_add]; congr 1; omega
        _ ≤ 256 ^ 8 := Nat.pow_le_pow_right (by omega) hs
    have := or_int G y m hy2 hbd
    unfold orStep
    rw [show (8 * ((s : Int) - 1 - (k : Int))).toNat = 8 * m by omega, hm, show s - (k + 1) = m by omega]
    rw [show ((G : Int) * 256 ^ (m + 1)) = ((G * 256 ^ (m + 1) : Nat) : Int) by simp, this]
    simp
theorem orF_all {xs : List Int} (hx : Bytes xs) (p s : Nat) (hs : s ≤ 8) (h1 : p + s ≤ xs.length) : orF xs p s (List.finRange s) = getN xs p s := by
  rw [← upto_all, orF_upto hx p s hs h1 s (Nat.le_refl _)]
  simp

theorem check_err (A : Option Addr) (n c : Nat) (t s : Int) (w : World) (hn : n ≤ 1000000) (ht : -9223372036854775808 ≤ t) (ht2 : t ≤ 9223372036854775807) (he : errOf n t s ≠ 0) :
    Calls Try.prog 69 #[.slice A n c, .int .i64 t, .int .i64 s] w fun e w' => e = thrown (errOf n t s) ∧ Below w.heap.size w w' := by
  by_cases hs : okSz s = true
  · by_cases hb : 0 ≤ t ∧ t + s ≤ n
    · exact absurd (errOf_0 hs hb.1 hb.2) he
    · rw [errOf_112 hs hb]
      exact check_112 A n c t s w hn ht ht2 hs hb
  · have hs' : okSz s = false := by simpa using hs
    rw [errOf_2 hs']
    exact check_2 A n c t s w hs'

theorem get1_err (g0 g1 g2 g3 : Nat) (A : Option Addr) (c n : Nat) (t s : Int) (w : World)
    (b0 : Bk w g0 23 [.slice A n c]) (b1 : Bk w g1 2 [.int .i64 t]) (b2 : Bk w g2 3 [.int .i64 s]) (hn : n ≤ 1000000) (ht : -9223372036854775808 ≤ t) (ht2 : t ≤ 9223372036854775807) (he : errOf n t s ≠ 0) :
    Calls Try.prog 68 #[.pointer (some ⟨g0, 0, none⟩), .pointer (some ⟨g1, 0, none⟩), .pointer (some ⟨g2, 0, none⟩), .pointer (some ⟨g3, 0, none⟩)] w fun e w' =>
      e = thrown (errOf n t s) ∧ Below w.heap.size w w' := by
  have c0 : w.cell? ⟨g0, 0, none⟩ = some (.slice A n c) := by rw [b0.cell]; rfl
  have c1 : w.cell? ⟨g1, 0, none⟩ = some (.int .i64 t) := by rw [b1.cell]; rfl
  have c2 : w.cell? ⟨g2, 0, none⟩ = some (.int .i64 s) := by rw [b2.cell]; rfl
  have HE := Lib.hid he
  clear he b0 b1 b2
  go_enter Try.func68, Try.ntmps68
  go_wp2_with fail
  refine (check_err A n c t s _ hn ht ht2 HE.out).mono ?_
  rintro e w1 ⟨rfl, hb⟩
  exact ⟨rfl, rfl, hb⟩

/-- What grew but for block g, g new, is as it was below. -/
theorem below_gr {a b c : World} {B g : Nat} (h : Below B a b) (k : b.grownBy c (some g)) (hg : B ≤ g) (hB : B ≤ b.heap.size) : Below B a c :=
  h.grown k hB (fun j e => by injection e with e; omega)

theorem get_caught (g0 g1 g2 g3 : Nat) (A : Option Addr) (c : Nat) (xs : List Int) (t s : Int) (B : Nat) (w W : World) (hB : Below B w W) (hBw : B ≤ W.heap.size)
    (b0 : Bk W g0 23 [.slice A xs.length c]) (b1 : Bk W g1 2 [.int .i64 t]) (b2 : Bk W g2 3 [.int .i64 s]) (b3 : Bk W g3 28 [.int .u64 0]) (hg : B ≤ g3) (n1 : g0 ≠ g3)
    (ha : Rd w B A c (u8s xs)) (hx : Bytes xs) (hn : xs.length ≤ 1000000) (ht : -9223372036854775808 ≤ t) (ht2 : t ≤ 9223372036854775807) :
    Calls Try.prog 67 #[.func (.func 68) #[] #[.pointer (some ⟨g0, 0, none⟩), .pointer (some ⟨g1, 0, none⟩), .pointer (some ⟨g2, 0, none⟩), .pointer (some ⟨g3, 0, none⟩)]] W fun e w' =>
      e = .returned (.int .i64 (errOf xs.length t s)) ∧ Bk w' g3 28 [.int .u64 (getR xs t s)] ∧ Below B w w' := by
  have hent := enters_of Try.func68 (by kernel_rfl) rfl
  rcases err_cases xs.length t s with ⟨hs, h0, h1, he⟩ | he
  · obtain ⟨p, rfl⟩ := Int.eq_ofNat_of_zero_le h0
    obtain ⟨k, rfl⟩ : ∃ k : Nat, s = k := ⟨s.toNat, by have := place_size s hs; omega⟩
    have hk8 : k ≤ 8 := by have := place_size k hs; omega
    have hG : getR xs p k = getN xs p k := by unfold getR; rw [if_pos he]; simp
    have hR : Rd (W.alloc (.cells #[.int .i64 0] 27)) B A c (u8s xs) := ha.below (hB.alloc hBw _)
    refine (caught_ret 68 _ W (fun w' => Bk w' g3 28 [.int .u64 (getN xs p k)] ∧ Below B w w') hent ?_).mono ?_
    · refine (get1_0 g0 g1 g2 g3 A c xs p k B _ (b0.alloc _) (b1.alloc _) (b2.alloc _) (b3.alloc _) hR hg n1 hx hn hs (by omega)).mono ?_
      rintro e w' ⟨rfl, hb3, hgr⟩
      rw [orF_all hx p k hk8 (by omega)] at hb3
      exact ⟨rfl, ⟨hb3, below_gr (hB.alloc hBw _) hgr hg (by simp; omega)⟩, (Bk.new W 27 [.int .i64 0]).grown hgr (fun e => by injection e with e; have := b3.lt; omega)⟩
    · rintro e w' ⟨rfl, w1, ⟨hb3, hbl⟩, rfl⟩
      rw [he, hG]
      have := b3.lt
      exact ⟨rfl, hb3.far (by simp; omega) _, hbl.setCell (by simp; omega) _⟩
  · have hG : getR xs t s = 0 := by unfold getR; rw [if_neg he]
    refine (caught_throw 68 _ (errOf xs.length t s) W (fun w' => Below W.heap.size W w') hent ?_).mono ?_
    · refine (get1_err g0 g1 g2 g3 A c xs.length t s _ (b0.alloc _) (b1.alloc _) (b2.alloc _) hn ht ht2 he).mono ?_
      rintro e w' ⟨rfl, hb⟩
      exact ⟨rfl, ((Below.refl _ _).alloc (Nat.le_refl _) _).trans (hb.mono (by simp)), (Bk.new W 27 [.int .i64 0]).below hb (by simp)⟩
    · rintro e w' ⟨rfl, w1, hbl, rfl⟩
      rw [hG]
      have := b3.lt
      exact ⟨rfl, (b3.below hbl b3.lt).far (by simp; omega) _, (hB.trans (hbl.mono hBw)).setCell (by simp; omega) _⟩

set_option maxHeartbeats 400000 in
theorem get_any (A : Option Addr) (c : Nat) (xs : List Int) (t s : Int) (w : World) (ha : Rd w w.heap.size A c (u8s xs)) (hx : Bytes xs) (hn : xs.length ≤ 1000000) (ht : -9223372036854775808 ≤ t) (ht2 : t ≤ 9223372036854775807) :
    Calls Try.prog 50 #[.slice A xs.length c, .int .i64 t, .int .i64 s] w fun e w' => e = .returned (.tuple #[.int .u64 (getR xs t s), .int .i64 (errOf xs.length t s)]) ∧ Below w.heap.size w w' := by
  have hmf : ∀ (fn : Fn) (first cap : Array Value) (w : World), (Instr.makeFunc fn first cap).run Try.prog w = .ok (.func fn first cap) w := fun _ _ _ _ => rfl
  have HR := Lib.hid ha
  clear ha
  go_enter Try.func50, Try.ntmps50
  go_wp2_with fail
  have b0 := Bk.new w 23 [.slice A xs.length c]
  have b1 := Bk.new (w.alloc (.cells #[.slice A xs.length c] 23)) 2 [.int .i64 t]
  have b2 := Bk.new ((w.alloc (.cells #[.slice A xs.length c] 23)).alloc (.cells #[.int .i64 t] 2)) 3 [.int .i64 s]
  have b3 := Bk.new (((w.alloc (.cells #[.slice A xs.length c] 23)).alloc (.cells #[.int .i64 t] 2)).alloc (.cells #[.int .i64 s] 3)) 28 [.int .u64 0]
  simp only [World.size_alloc] at b0 b1 b2 b3
  refine (get_caught w.heap.size (w.heap.size + 1) (w.heap.size + 1 + 1) (w.heap.size + 1 + 1 + 1) A c xs t s w.heap.size w _ ((((((Below.refl _ _).alloc (Nat.le_refl _) _).alloc (by simp) _).alloc (by simp; omega) _).alloc (by simp; omega) _)) (by simp; omega)
    (((b0.alloc _).alloc _).alloc _) ((b1.alloc _).alloc _) (b2.alloc _) b3 (by omega) (by omega) HR.out hx hn ht ht2).mono ?_
  rintro e w1 ⟨rfl, hb3, hbl⟩
  have c3 : w1.cell? ⟨w.heap.size + 1 + 1 + 1, 0, none⟩ = some (.int .u64 (getR xs t s)) := by rw [hb3.cell]; rfl
  clear b0 b1 b2 b3 hb3
  go_wp2
  go_ret2
  exact ⟨rfl, hbl⟩
end Go.Proofs.Ytbfegghkipoppaa
namespace Go.Proofs.Ytbfegghkipoppaa
set_option maxRecDepth 100000
open Go.RowKit Go.Shelf

attribute [local go_sem] Oper.semAt_some
set_option linter.unusedVariables false

/-- The byte of v that stands up bits up. -/
def byteAt (v up : Int) : Int := v / 2 ^ up.toNat % 256
/-- The bytes as they stand behind the rounds of pre. -/
def setF (xs : List Int) (p s : Nat) (v : Int) (pre : List (Fin s)) : List Int := pre.foldl (fun l i => l.set (p + i.1) (byteAt v (8 * ((s : Int) - 1 - (i.1 : Int))))) xs
theorem setF_snoc (xs : List Int) (p s : Nat) (v : Int) (pre : List (Fin s)) (i : Fin s) : setF xs p s v (pre ++ [i]) = (setF xs p s v pre).set (p + i.1) (byteAt v (8 * ((s : Int) - 1 - (i.1 : Int)))) := by simp [setF]
theorem setF_len (xs : List Int) (p s : Nat) (v : Int) (pre : List (Fin s)) : (setF xs p s v pre).length = xs.length := by
  unfold setF
  induction pre generalizing xs with
  | nil => rfl
  | cons i l ih => rw [List.foldl_cons, ih]; simp

set_option maxRecDepth 100000 in
set_option maxHeartbeats 2000000 in
theorem set1_0 (g0 g1 g2 g3 g n cap : Nat) (xs : List Int) (p s : Nat) (v : Int) (w : World)
    (b0 : Bk w g0 23 [.slice (some ⟨g, 0, none⟩) n cap]) (b1 : Bk w g1 2 [.int .i64 p]) (b2 : Bk w g2 3 [.int .i64 s]) (b3 : Bk w g3 28 [.int .u64 v]) (b : Bk w g 5 (u8s xs))
    (n0 : g0 ≠ g) (n3 : g3 ≠ g) (hn : n ≤ 1000000) (hnx : n ≤ xs.length) (hs : okSz s = true) (h1 : p + s ≤ n) (hv0 : 0 ≤ v) (hv2 : v ≤ 18446744073709551615) :
    Calls Try.prog 71 #[.pointer (some ⟨g0, 0, none⟩), .pointer (some ⟨g1, 0, none⟩), .pointer (some ⟨g2, 0, none⟩), .pointer (some ⟨g3, 0, none⟩)] w fun e w' =>
      e = .returned (.tuple #[]) ∧ Bk w' g 5 (u8s (setF xs p s v (List.finRange s))) ∧ w.grownBy w' (some g) := by
  have c0 : w.cell? ⟨g0, 0, none⟩ = some (.slice (some ⟨g, 0, none⟩) n cap) := by rw [b0.cell]; rfl
  have c1 : w.cell? ⟨g1, 0, none⟩ = some (.int .i64 p) := by rw [b1.cell]; rfl
  have c2 : w.cell? ⟨g2, 0, none⟩ = some (.int .i64 s) := by rw [b2.cell]; rfl
  have hs8 : s ≤ 8 := by have := place_size s hs; omega
  refine (callsIn_wide (n := 3)).1 ?_
  refine callsIn_of_wp_marks Try.func71 rfl trivial ?_ rfl
  simp only [Try.ntmps71, List.size_toArray, List.length_cons, List.length_nil, Nat.reduceAdd, Nat.reduceSub, Array.replicate_succ, Array.replicate_zero, List.push_toArray, List.append_toArray, List.nil_append, List.cons_append]
  gi_wp2_with (first
    | (refine ⟨trivial, ?_⟩; gi_at_call 69; refine (callsIn_wide.2 (check_0 _ n cap p s _ hn hs (by omega) (by omega))).mono ?_; rintro e w1 ⟨rfl, hb1⟩; have c1 : w1.cell? ⟨g1, 0, none⟩ = some (.int .i64 p) := by { rw [(b1.below hb1 b1.lt).cell]; rfl }; have c2 : w1.cell? ⟨g2, 0, none⟩ = some (.int .i64 s) := by { rw [(b2.below hb1 b2.lt).cell]; rfl })
    | (refine ⟨trivial, ?_⟩; gi_at_call 70; refine (places_in Fence.wide _ trivial rfl _ _ _).mono ?_; rintro e w2 ⟨rfl, rfl⟩))
  have hz := hb1.size
  have hg3 := b.lt
  have nb1 := Bk.new w1 2 [.int .i64 p]
  have nb2 := Bk.new (w1.alloc (.cells #[.int .i64 p] 2)) 3 [.int .i64 s]
  rw [World.size_alloc] at nb2
  have hB2 : Below w.heap.size w ((w1.alloc (.cells #[.int .i64 p] 2)).alloc (.cells #[.int .i64 s] 3)) := (hb1.alloc (by omega) _).alloc (by simp; omega) _
  refine wpIn_rangeFunc_ownF rfl (by omega) (gf := 102) (lb := #[.pointer (some ⟨w1.heap.size + 1, 0, none⟩), .pointer (some ⟨w1.heap.size, 0, none⟩)]) rfl trivial (enters_of Try.func102 (by kernel_rfl) rfl)
    (places_stops Fence.wide (3 - 1) trivial rfl (by omega) (w1.heap.size + 1) w1.heap.size p s hs8 (by omega) (by omega) _ nb2 (nb1.alloc _)) kp2_t (kp2_b (by simp) (by simp; omega)) (Below.refl _ _) (fun _ => rfl)
    (fun pre W => Bk W g 5 (u8s (setF xs p s v pre)) ∧ w.grownBy W (some g))
    (fun _ _ _ => False)
    (fun s A B row hs hg hr => ⟨hs.1.grown hg (fun e => by have := (hr g e.symm).1; simp at this; omega), gr_far hs.2 hg (fun j e => by have := (hr j e).1; simp at this; omega)⟩)
    (fun _ _ _ _ _ hs _ _ => hs)
    ⟨b.below hB2 b.lt, gr_below hB2 _⟩
    (fun x => { tmps := #[.pointer (some ⟨g0, 0, none⟩), .pointer (some ⟨g1, 0, none⟩), .pointer (some ⟨g2, 0, none⟩), .pointer (some ⟨g3, 0, none⟩), .int .i64 (p + (x.1 : Int)), .int .i64 (8 * ((s : Int) - 1 - (x.1 : Int))), .slice (some ⟨g, 0, none⟩) n cap, .int .i64 p, .int .i64 s, .tuple #[], .int .i64 p, .int .i64 s, .func (.func 102) #[] #[.pointer (some ⟨w1.heap.size + 1, 0, none⟩), .pointer (some ⟨w1.heap.size, 0, none⟩)], .int .i64 (p + (x.1 : Int)), .int .i64 (8 * ((s : Int) - 1 - (x.1 : Int))), undef, undef, undef, undef, undef, undef, undef], defers := [] }) ?assign ?body ?done ?stop
  case assign =>
    intro l x W K hK
    simp only [encP]
    gi_wp2
    exact hK
  case body =>
    rintro l pre ⟨x, hxs⟩ W ⟨hb3, hgr⟩ _
    have d0 : W.cell? ⟨g0, 0, none⟩ = some (.slice (some ⟨g, 0, none⟩) n cap) := by rw [(b0.grown hgr (by simp [n0])).cell]; rfl
    have d3 : W.cell? ⟨g3, 0, none⟩ = some (.int .u64 v) := by rw [(b3.grown hgr (by simp [n3])).cell]; rfl
    obtain ⟨y, da, _⟩ := hb3.u8 (k := p + x) (by rw [setF_len]; omega)
    have f3 : W.frozen? ⟨g, p + x, none⟩ = false := hb3.frozen _
    have HS := Lib.hid (setF_snoc xs p s v pre ⟨x, hxs⟩)
    have i1 : (0 : Int) ≤ (p : Int) + x := by omega
    have i2 : (p : Int) + x < n := by omega
    have i3 : ((p : Int) + x).toNat = p + x := by omega
    have i4 : 0 ≤ 8 * ((s : Int) - 1 - (x : Int)) := by omega
    have i5 : ¬ 8 * ((s : Int) - 1 - (x : Int)) < 0 := by omega
    clear h1 hn hs c0 b0 b1 b2
    gi_wp2
    refine round_still_tail l _ 7 (by kernel_rfl) (by kernel_rfl) (by kernel_rfl) (by rintro ⟨_, _, h⟩; exact h) ?_
    simp only [List.take_succ_cons, List.take_zero, List.drop_succ_cons, List.drop_zero]
    repeat still_step
    refine wpStill_nil ?_
    go_wp2
    have hv : byteAt v (8 * ((s : Int) - 1 - (x : Int))) = v / 2 ^ (8 * (s - 1 - x)) % 256 := by
      unfold byteAt; rw [show (8 * ((s : Int) - 1 - (x : Int))).toNat = 8 * (s - 1 - x) by omega]
    rw [← hv]
    exact ⟨(KeepsOthers.setCell _ _ _).trans (KeepsOthers.drew _), ⟨Below.heap_setCell _ _ _ _ (by simp; omega), Below.heap_setCell _ _ _ _ (by simp; omega)⟩, by rw [HS.out, u8s_set]; exact hb3.set _ _, gr_drew (gr_set hgr rfl _)⟩
  case done =>
    rintro D ys W hD rfl ⟨hb3, hgr⟩ hK
    gi_wp2
    have hDz : w1.heap.size + 1 + 1 ≤ D := by simpa using hD
    refine ⟨by simp, .inl ⟨_, _, rfl, run_takeDeferred hK, ?_⟩⟩
    have hg := grownBy_putObj' W D (.deferred none)
    exact ⟨_, results_none rfl _ _ _, rfl, hb3.grown hg (fun e => by injection e with e; omega), gr_far hgr hg (fun j e => by injection e with e; omega)⟩
  case stop =>
    rintro D c pre W _ _ h _
    exact h.elim

theorem setF_upto (xs : List Int) (p s : Nat) (v : Int) (h1 : p + s ≤ xs.length) : ∀ k, k ≤ s → ∀ j, (setF xs p s v (upto s k))[j]? = if p ≤ j ∧ j < p + k then some (v / 256 ^ (p + s - 1 - j) % 256) else xs[j]?
  | 0, _, j => by simp [setF, upto]; omega
  | k + 1, hk, j => by
    have ih := setF_upto xs p s v h1 k (by omega) j
    rw [upto_succ s (by omega), setF_snoc, List.getElem?_set, setF_len]
    by_cases h : p + k = j
    · subst h
      rw [if_pos rfl, if_pos (by omega), if_pos (by omega)]
      unfold byteAt
      rw [show (8 * ((s : Int) - 1 - (k : Int))).toNat = 8 * (s - 1 - k) by omega, show p + s - 1 - (p + k) = s - 1 - k by omega, Int.pow_mul]
      rfl
    · rw [if_neg h, ih]
      by_cases h2 : p ≤ j ∧ j < p + k
      · rw [if_pos h2, if_pos (by omega)]
      · rw [if_neg h2, if_neg (by omega)]
theorem setF_all (xs : List Int) (p s : Nat) (v : Int) (h1 : p + s ≤ xs.length) : setF xs p s v (List.finRange s) = setN xs p s v := by
  apply List.ext_getElem?
  intro j
  rw [← upto_all, setF_upto xs p s v h1 s (Nat.le_refl _), setN_at _ _ _ _ h1]

theorem set1_err (g0 g1 g2 g3 : Nat) (A : Option Addr) (c n : Nat) (t s : Int) (w : World)
    (b0 : Bk w g0 23 [.slice A n c]) (b1 : Bk w g1 2 [.int .i64 t]) (b2 : Bk w g2 3 [.int .i64 s]) (hn : n ≤ 1000000) (ht : -9223372036854775808 ≤ t) (ht2 : t ≤ 9223372036854775807) (he : errOf n t s ≠ 0) :
    Calls Try.prog 71 #[.pointer (some ⟨g0, 0, none⟩), .pointer (some ⟨g1, 0, none⟩), .pointer (some ⟨g2, 0, none⟩), .pointer (some ⟨g3, 0, none⟩)] w fun e w' =>
      e = thrown (errOf n t s) ∧ Below w.heap.size w w' := by
  have c0 : w.cell? ⟨g0, 0, none⟩ = some (.slice A n c) := by rw [b0.cell]; rfl
  have c1 : w.cell? ⟨g1, 0, none⟩ = some (.int .i64 t) := by rw [b1.cell]; rfl
  have c2 : w.cell? ⟨g2, 0, none⟩ = some (.int .i64 s) := by rw [b2.cell]; rfl
  have HE := Lib.hid he
  clear he b0 b1 b2
  go_enter Try.func71, Try.ntmps71
  go_wp2_with fail
  refine (check_err A n c t s _ hn ht ht2 HE.out).mono ?_
  rintro e w1 ⟨rfl, hb⟩
  exact ⟨rfl, rfl, hb⟩

/-- What the document tells of all cells of a block behind a Set of its first n. -/
def setA (xs : List Int) (n : Nat) (t s v : Int) : List Int := if errOf n t s = 0 then setN xs t.toNat s.toNat v else xs
theorem setA_len (xs : List Int) (n : Nat) (t s v : Int) : (setA xs n t s v).length = xs.length := by unfold setA; split <;> simp
theorem setA_app (xs ys : List Int) (t s v : Int) : setA (xs ++ ys) xs.length t s v = setR xs t s v ++ ys := by
  unfold setA setR
  rcases err_cases xs.length t s with ⟨hs, h0, h1, he⟩ | he
  · rw [if_pos he, if_pos he]
    obtain ⟨p, rfl⟩ := Int.eq_ofNat_of_zero_le h0
    obtain ⟨k, rfl⟩ : ∃ k : Nat, s = k := ⟨s.toNat, by have := place_size s hs; omega⟩
    simp only [Int.toNat_natCast]
    apply List.ext_getElem?
    intro j
    rw [setN_at _ _ _ _ (by simp; omega), List.getElem?_append, List.getElem?_append, setN_at _ _ _ _ (by omega), setN_len]
    by_cases h : p ≤ j ∧ j < p + k
    · rw [if_pos h, if_pos h, if_pos (by omega)]
    · rw [if_neg h, if_neg h]
  · rw [if_neg he, if_neg he]

theorem set_caught (g0 g1 g2 g3 g n cap : Nat) (xs : List Int) (t s v : Int) (W : World)
    (b0 : Bk W g0 23 [.slice (some ⟨g, 0, none⟩) n cap]) (b1 : Bk W g1 2 [.int .i64 t]) (b2 : Bk W g2 3 [.int .i64 s]) (b3 : Bk W g3 28 [.int .u64 v]) (b : Bk W g 5 (u8s xs)) (n0 : g0 ≠ g) (n3 : g3 ≠ g)
    (hn : n ≤ 1000000) (hnx : n ≤ xs.length) (ht : -9223372036854775808 ≤ t) (ht2 : t ≤ 9223372036854775807) (hv0 : 0 ≤ v) (hv2 : v ≤ 18446744073709551615) :
    Calls Try.prog 67 #[.func (.func 71) #[] #[.pointer (some ⟨g0, 0, none⟩), .pointer (some ⟨g1, 0, none⟩), .pointer (some ⟨g2, 0, none⟩), .pointer (some ⟨g3, 0, none⟩)]] W fun e w' =>
      e = .returned (.int .i64 (errOf n t s)) ∧ Bk w' g 5 (u8s (setA xs n t s v)) ∧ W.grownBy w' (some g) := by
  have hent := enters_of Try.func71 (by kernel_rfl) rfl
  have hgl := b.lt
  rcases err_cases n t s with ⟨hs, h0, h1, he⟩ | he
  · obtain ⟨p, rfl⟩ := Int.eq_ofNat_of_zero_le h0
    obtain ⟨k, rfl⟩ : ∃ k : Nat, s = k := ⟨s.toNat, by have := place_size s hs; omega⟩
    have hG : setA xs n p k v = setN xs p k v := by unfold setA; rw [if_pos he]; simp
    refine (caught_ret 71 _ W (fun w' => Bk w' g 5 (u8s (setN xs p k v)) ∧ W.grownBy w' (some g)) hent ?_).mono ?_
    · refine (set1_0 g0 g1 g2 g3 g n cap xs p k v _ (b0.alloc _) (b1.alloc _) (b2.alloc _) (b3.alloc _) (b.alloc _) n0 n3 hn hnx hs (by omega) hv0 hv2).mono ?_
      rintro e w' ⟨rfl, hb3, hgr⟩
      rw [setF_all xs p k v (by omega)] at hb3
      exact ⟨rfl, ⟨hb3, gr_trans (World.grownBy_alloc W _ _) hgr⟩, (Bk.new W 27 [.int .i64 0]).grown hgr (fun e => by injection e with e; omega)⟩
    · rintro e w' ⟨rfl, w1, ⟨hb3, hbl⟩, rfl⟩
      rw [he, hG]
      exact ⟨rfl, hb3.far (by simp; omega) _, gr_far hbl (gr_set (World.grownBy.refl _ (some W.heap.size)) rfl _) (fun j e => by injection e with e; omega)⟩
  · have hG : setA xs n t s v = xs := by unfold setA; rw [if_neg he]
    refine (caught_throw 71 _ (errOf n t s) W (fun w' => Below W.heap.size W w') hent ?_).mono ?_
    · refine (set1_err g0 g1 g2 g3 _ cap n t s _ (b0.alloc _) (b1.alloc _) (b2.alloc _) hn ht ht2 he).mono ?_
      rintro e w' ⟨rfl, hb⟩
      exact ⟨rfl, ((Below.refl _ _).alloc (Nat.le_refl _) _).trans (hb.mono (by simp)), (Bk.new W 27 [.int .i64 0]).below hb (by simp)⟩
    · rintro e w' ⟨rfl, w1, hbl, rfl⟩
      rw [hG]
      exact ⟨rfl, (b.below hbl b.lt).far (by simp; omega) _, gr_below (hbl.setCell (by simp) _) _⟩

set_option maxHeartbeats 400000 in
theorem set_any (g n cap : Nat) (xs : List Int) (t s v : Int) (w : World) (b : Bk w g 5 (u8s xs)) (hn : n ≤ 1000000) (hnx : n ≤ xs.length) (ht : -9223372036854775808 ≤ t) (ht2 : t ≤ 9223372036854775807) (hv0 : 0 ≤ v) (hv2 : v ≤ 18446744073709551615) :
    Calls Try.prog 53 #[.slice (some ⟨g, 0, none⟩) n cap, .int .i64 t, .int .i64 s, .int .u64 v] w fun e w' => e = .returned (.int .i64 (errOf n t s)) ∧ Bk w' g 5 (u8s (setA xs n t s v)) ∧ w.grownBy w' (some g) := by
  have hmf : ∀ (fn : Fn) (first cap : Array Value) (w : World), (Instr.makeFunc fn first cap).run Try.prog w = .ok (.func fn first cap) w := fun _ _ _ _ => rfl
  have hgl := b.lt
  go_enter Try.func53, Try.ntmps53
  go_wp2_with fail
  have b0 := Bk.new w 23 [.slice (some ⟨g, 0, none⟩) n cap]
  have b1 := Bk.new (w.alloc (.cells #[.slice (some ⟨g, 0, none⟩) n cap] 23)) 2 [.int .i64 t]
  have b2 := Bk.new ((w.alloc (.cells #[.slice (some ⟨g, 0, none⟩) n cap] 23)).alloc (.cells #[.int .i64 t] 2)) 3 [.int .i64 s]
  have b3 := Bk.new (((w.alloc (.cells #[.slice (some ⟨g, 0, none⟩) n cap] 23)).alloc (.cells #[.int .i64 t] 2)).alloc (.cells #[.int .i64 s] 3)) 28 [.int .u64 v]
  simp only [World.size_alloc] at b0 b1 b2 b3
  have hb4 : Below w.heap.size w ((((w.alloc (.cells #[.slice (some ⟨g, 0, none⟩) n cap] 23)).alloc (.cells #[.int .i64 t] 2)).alloc (.cells #[.int .i64 s] 3)).alloc (.cells #[.int .u64 v] 28)) := (((((Below.refl _ _).alloc (Nat.le_refl _) _).alloc (by simp) _).alloc (by simp; omega) _).alloc (by simp; omega) _)
  refine (set_caught w.heap.size (w.heap.size + 1) (w.heap.size + 1 + 1) (w.heap.size + 1 + 1 + 1) g n cap xs t s v _ 
    (((b0.alloc _).alloc _).alloc _) ((b1.alloc _).alloc _) (b2.alloc _) b3 ((((b.alloc _).alloc _).alloc _).alloc _) (by omega) (by omega) hn hnx ht ht2 hv0 hv2).mono ?_
  rintro e w1 ⟨rfl, hb3, hgr⟩
  have hgr' := gr_trans (gr_below hb4 (some g)) hgr
  clear b0 b1 b2 b3 hb4 hgr
  go_wp2
  go_ret
  exact ⟨rfl, hb3, hgr'⟩
end Go.Proofs.Ytbfegghkipoppaa
namespace Go.Proofs.Ytbfegghkipoppaa
set_option maxRecDepth 100000
open Go.RowKit Go.Shelf

attribute [local go_sem] Oper.semAt_some
set_option linter.unusedVariables false

theorem mid_cell {w : World} {g o : Nat} {T : TypeId} {pr po : List Value} {l : List Int} (h : Bk w g T (pr ++ u8s l ++ po)) (ho : pr.length = o) {k : Nat} (hk : k < l.length) : ∃ x, w.cell? ⟨g, o + k, none⟩ = some (.int .u8 x) ∧ Hid (l[k]? = some x) := by
  subst ho
  refine ⟨l[k], ?_, List.getElem?_eq_getElem hk⟩
  rw [h.cell, List.getElem?_append_left (by simp; omega), List.getElem?_append_right (by omega)]
  simp [u8s, hk]
theorem mid_set {o : Nat} (pr po : List Value) (l : List Int) (ho : pr.length = o) (k : Nat) (hk : k < l.length) (x : Int) : (pr ++ u8s l ++ po).set (o + k) (.int .u8 x) = pr ++ u8s (l.set k x) ++ po := by
  subst ho
  rw [List.set_append, if_pos (by simp; omega), List.set_append, if_neg (by omega), Nat.add_sub_cancel_left]
  simp [u8s]
set_option maxRecDepth 100000 in
set_option maxHeartbeats 2000000 in
theorem set1_in (g0 g1 g2 g3 g n cap o : Nat) (T : TypeId) (pr po : List Value) (ho : pr.length = o) (xs : List Int) (p s : Nat) (v : Int) (w : World)
    (b0 : Bk w g0 23 [.slice (some ⟨g, o, none⟩) n cap]) (b1 : Bk w g1 2 [.int .i64 p]) (b2 : Bk w g2 3 [.int .i64 s]) (b3 : Bk w g3 28 [.int .u64 v]) (b : Bk w g T (pr ++ u8s xs ++ po))
    (n0 : g0 ≠ g) (n3 : g3 ≠ g) (hn : n ≤ 1000000) (hnx : n ≤ xs.length) (hs : okSz s = true) (h1 : p + s ≤ n) (hv0 : 0 ≤ v) (hv2 : v ≤ 18446744073709551615) :
    Calls Try.prog 71 #[.pointer (some ⟨g0, 0, none⟩), .pointer (some ⟨g1, 0, none⟩), .pointer (some ⟨g2, 0, none⟩), .pointer (some ⟨g3, 0, none⟩)] w fun e w' =>
      e = .returned (.tuple #[]) ∧ Bk w' g T (pr ++ u8s (setF xs p s v (List.finRange s)) ++ po) ∧ w.grownBy w' (some g) := by
  have c0 : w.cell? ⟨g0, 0, none⟩ = some (.slice (some ⟨g, o, none⟩) n cap) := by rw [b0.cell]; rfl
  have c1 : w.cell? ⟨g1, 0, none⟩ = some (.int .i64 p) := by rw [b1.cell]; rfl
  have c2 : w.cell? ⟨g2, 0, none⟩ = some (.int .i64 s) := by rw [b2.cell]; rfl
  have hs8 : s ≤ 8 := by have := place_size s hs; omega
  refine (callsIn_wide (n := 3)).1 ?_
  refine callsIn_of_wp_marks Try.func71 rfl trivial ?_ rfl
  simp only [Try.ntmps71, List.size_toArray, List.length_cons, List.length_nil, Nat.reduceAdd, Nat.reduceSub, Array.replicate_succ, Array.replicate_zero, List.push_toArray, List.append_toArray, List.nil_append, List.cons_append]
  gi_wp2_with (first
    | (refine ⟨trivial, ?_⟩; gi_at_call 69; refine (callsIn_wide.2 (check_0 _ n cap p s _ hn hs (by omega) (by omega))).mono ?_; rintro e w1 ⟨rfl, hb1⟩; have c1 : w1.cell? ⟨g1, 0, none⟩ = some (.int .i64 p) := by { rw [(b1.below hb1 b1.lt).cell]; rfl }; have c2 : w1.cell? ⟨g2, 0, none⟩ = some (.int .i64 s) := by { rw [(b2.below hb1 b2.lt).cell]; rfl })
    | (refine ⟨trivial, ?_⟩; gi_at_call 70; refine (places_in Fence.wide _ trivial rfl _ _ _).mono ?_; rintro e w2 ⟨rfl, rfl⟩))
  have hz := hb1.size
  have hg3 := b.lt
  have nb1 := Bk.new w1 2 [.int .i64 p]
  have nb2 := Bk.new (w1.alloc (.cells #[.int .i64 p] 2)) 3 [.int .i64 s]
  rw [World.size_alloc] at nb2
  have hB2 : Below w.heap.size w ((w1.alloc (.cells #[.int .i64 p] 2)).alloc (.cells #[.int .i64 s] 3)) := (hb1.alloc (by omega) _).alloc (by simp; omega) _
  refine wpIn_rangeFunc_ownF rfl (by omega) (gf := 102) (lb := #[.pointer (some ⟨w1.heap.size + 1, 0, none⟩), .pointer (some ⟨w1.heap.size, 0, none⟩)]) rfl trivial (enters_of Try.func102 (by kernel_rfl) rfl)
    (places_stops Fence.wide (3 - 1) trivial rfl (by omega) (w1.heap.size + 1) w1.heap.size p s hs8 (by omega) (by omega) _ nb2 (nb1.alloc _)) kp2_t (kp2_b (by simp) (by simp; omega)) (Below.refl _ _) (fun _ => rfl)
    (fun pre W => Bk W g T (pr ++ u8s (setF xs p s v pre) ++ po) ∧ w.grownBy W (some g))
    (fun _ _ _ => False)
    (fun s A B row hs hg hr => ⟨hs.1.grown hg (fun e => by have := (hr g e.symm).1; simp at this; omega), gr_far hs.2 hg (fun j e => by have := (hr j e).1; simp at this; omega)⟩)
    (fun _ _ _ _ _ hs _ _ => hs)
    ⟨b.below hB2 b.lt, gr_below hB2 _⟩
    (fun x => { tmps := #[.pointer (some ⟨g0, 0, none⟩), .pointer (some ⟨g1, 0, none⟩), .pointer (some ⟨g2, 0, none⟩), .pointer (some ⟨g3, 0, none⟩), .int .i64 (p + (x.1 : Int)), .int .i64 (8 * ((s : Int) - 1 - (x.1 : Int))), .slice (some ⟨g, o, none⟩) n cap, .int .i64 p, .int .i64 s, .tuple #[], .int .i64 p, .int .i64 s, .func (.func 102) #[] #[.pointer (some ⟨w1.heap.size + 1, 0, none⟩), .pointer (some ⟨w1.heap.size, 0, none⟩)], .int .i64 (p + (x.1 : Int)), .int .i64 (8 * ((s : Int) - 1 - (x.1 : Int))), undef, undef, undef, undef, undef, undef, undef], defers := [] }) ?assign ?body ?done ?stop
  case assign =>
    intro l x W K hK
    simp only [encP]
    gi_wp2
    exact hK
  case body =>
    rintro l pre ⟨x, hxs⟩ W ⟨hb3, hgr⟩ _
    have d0 : W.cell? ⟨g0, 0, none⟩ = some (.slice (some ⟨g, o, none⟩) n cap) := by rw [(b0.grown hgr (by simp [n0])).cell]; rfl
    have d3 : W.cell? ⟨g3, 0, none⟩ = some (.int .u64 v) := by rw [(b3.grown hgr (by simp [n3])).cell]; rfl
    obtain ⟨y, da, _⟩ := mid_cell hb3 ho (k := p + x) (by rw [setF_len]; omega)
    have f3 : W.frozen? ⟨g, o + (p + x), none⟩ = false := hb3.frozen _
    have HS := Lib.hid (setF_snoc xs p s v pre ⟨x, hxs⟩)
    have HM := Lib.hid (mid_set pr po (setF xs p s v pre) ho (p + x) (by rw [setF_len]; omega) (byteAt v (8 * ((s : Int) - 1 - (x : Int)))))
    have i1 : (0 : Int) ≤ (p : Int) + x := by omega
    have i2 : (p : Int) + x < n := by omega
    have i3 : ((p : Int) + x).toNat = p + x := by omega
    have i4 : 0 ≤ 8 * ((s : Int) - 1 - (x : Int)) := by omega
    have i5 : ¬ 8 * ((s : Int) - 1 - (x : Int)) < 0 := by omega
    clear h1 hn hs c0 b0 b1 b2
    gi_wp2
    refine round_still_tail l _ 7 (by kernel_rfl) (by kernel_rfl) (by kernel_rfl) (by rintro ⟨_, _, h⟩; exact h) ?_
    simp only [List.take_succ_cons, List.take_zero, List.drop_succ_cons, List.drop_zero]
    repeat still_step
    refine wpStill_nil ?_
    go_wp2
    have hv : byteAt v (8 * ((s : Int) - 1 - (x : Int))) = v / 2 ^ (8 * (s - 1 - x)) % 256 := by
      unfold byteAt; rw [show (8 * ((s : Int) - 1 - (x : Int))).toNat = 8 * (s - 1 - x) by omega]
    rw [← hv]
    exact ⟨(KeepsOthers.setCell _ _ _).trans (KeepsOthers.drew _), ⟨Below.heap_setCell _ _ _ _ (by simp; omega), Below.heap_setCell _ _ _ _ (by simp; omega)⟩, by rw [HS.out, ← HM.out]; exact hb3.set _ _, gr_drew (gr_set hgr rfl _)⟩
  case done =>
    rintro D ys W hD rfl ⟨hb3, hgr⟩ hK
    gi_wp2
    have hDz : w1.heap.size + 1 + 1 ≤ D := by simpa using hD
    refine ⟨by simp, .inl ⟨_, _, rfl, run_takeDeferred hK, ?_⟩⟩
    have hg := grownBy_putObj' W D (.deferred none)
    exact ⟨_, results_none rfl _ _ _, rfl, hb3.grown hg (fun e => by injection e with e; omega), gr_far hgr hg (fun j e => by injection e with e; omega)⟩
  case stop =>
    rintro D c pre W _ _ h _
    exact h.elim

theorem set_caught_in (g0 g1 g2 g3 g n cap o : Nat) (T : TypeId) (pr po : List Value) (ho : pr.length = o) (xs : List Int) (t s v : Int) (W : World)
    (b0 : Bk W g0 23 [.slice (some ⟨g, o, none⟩) n cap]) (b1 : Bk W g1 2 [.int .i64 t]) (b2 : Bk W g2 3 [.int .i64 s]) (b3 : Bk W g3 28 [.int .u64 v]) (b : Bk W g T (pr ++ u8s xs ++ po)) (n0 : g0 ≠ g) (n3 : g3 ≠ g)
    (hn : n ≤ 1000000) (hnx : n ≤ xs.length) (ht : -9223372036854775808 ≤ t) (ht2 : t ≤ 9223372036854775807) (hv0 : 0 ≤ v) (hv2 : v ≤ 18446744073709551615) :
    Calls Try.prog 67 #[.func (.func 71) #[] #[.pointer (some ⟨g0, 0, none⟩), .pointer (some ⟨g1, 0, none⟩), .pointer (some ⟨g2, 0, none⟩), .pointer (some ⟨g3, 0, none⟩)]] W fun e w' =>
      e = .returned (.int .i64 (errOf n t s)) ∧ Bk w' g T (pr ++ u8s (setA xs n t s v) ++ po) ∧ W.grownBy w' (some g) := by
  have hent := enters_of Try.func71 (by kernel_rfl) rfl
  have hgl := b.lt
  rcases err_cases n t s with ⟨hs, h0, h1, he⟩ | he
  · obtain ⟨p, rfl⟩ := Int.eq_ofNat_of_zero_le h0
    obtain ⟨k, rfl⟩ : ∃ k : Nat, s = k := ⟨s.toNat, by have := place_size s hs; omega⟩
    have hG : setA xs n p k v = setN xs p k v := by unfold setA; rw [if_pos he]; simp
    refine (caught_ret 71 _ W (fun w' => Bk w' g T (pr ++ u8s (setN xs p k v) ++ po) ∧ W.grownBy w' (some g)) hent ?_).mono ?_
    · refine (set1_in g0 g1 g2 g3 g n cap o T pr po ho xs p k v _ (b0.alloc _) (b1.alloc _) (b2.alloc _) (b3.alloc _) (b.alloc _) n0 n3 hn hnx hs (by omega) hv0 hv2).mono ?_
      rintro e w' ⟨rfl, hb3, hgr⟩
      rw [setF_all xs p k v (by omega)] at hb3
      exact ⟨rfl, ⟨hb3, gr_trans (World.grownBy_alloc W _ _) hgr⟩, (Bk.new W 27 [.int .i64 0]).grown hgr (fun e => by injection e with e; omega)⟩
    · rintro e w' ⟨rfl, w1, ⟨hb3, hbl⟩, rfl⟩
      rw [he, hG]
      exact ⟨rfl, hb3.far (by simp; omega) _, gr_far hbl (gr_set (World.grownBy.refl _ (some W.heap.size)) rfl _) (fun j e => by injection e with e; omega)⟩
  · have hG : setA xs n t s v = xs := by unfold setA; rw [if_neg he]
    refine (caught_throw 71 _ (errOf n t s) W (fun w' => Below W.heap.size W w') hent ?_).mono ?_
    · refine (set1_err g0 g1 g2 g3 _ cap n t s _ (b0.alloc _) (b1.alloc _) (b2.alloc _) hn ht ht2 he).mono ?_
      rintro e w' ⟨rfl, hb⟩
      exact ⟨rfl, ((Below.refl _ _).alloc (Nat.le_refl _) _).trans (hb.mono (by simp)), (Bk.new W 27 [.int .i64 0]).below hb (by simp)⟩
    · rintro e w' ⟨rfl, w1, hbl, rfl⟩
      rw [hG]
      exact ⟨rfl, (b.below hbl b.lt).far (by simp; omega) _, gr_below (hbl.setCell (by simp) _) _⟩

set_option maxHeartbeats 400000 in
theorem set_in (g n cap o : Nat) (T : TypeId) (pr po : List Value) (ho : pr.length = o) (xs : List Int) (t s v : Int) (w : World) (b : Bk w g T (pr ++ u8s xs ++ po)) (hn : n ≤ 1000000) (hnx : n ≤ xs.length) (ht : -9223372036854775808 ≤ t) (ht2 : t ≤ 9223372036854775807) (hv0 : 0 ≤ v) (hv2 : v ≤ 18446744073709551615) :
    Calls Try.prog 53 #[.slice (some ⟨g, o, none⟩) n cap, .int .i64 t, .int .i64 s, .int .u64 v] w fun e w' => e = .returned (.int .i64 (errOf n t s)) ∧ Bk w' g T (pr ++ u8s (setA xs n t s v) ++ po) ∧ w.grownBy w' (some g) := by
  have hmf : ∀ (fn : Fn) (first cap : Array Value) (w : World), (Instr.makeFunc fn first cap).run Try.prog w = .ok (.func fn first cap) w := fun _ _ _ _ => rfl
  have hgl := b.lt
  go_enter Try.func53, Try.ntmps53
  go_wp2_with fail
  have b0 := Bk.new w 23 [.slice (some ⟨g, o, none⟩) n cap]
  have b1 := Bk.new (w.alloc (.cells #[.slice (some ⟨g, o, none⟩) n cap] 23)) 2 [.int .i64 t]
  have b2 := Bk.new ((w.alloc (.cells #[.slice (some ⟨g, o, none⟩) n cap] 23)).alloc (.cells #[.int .i64 t] 2)) 3 [.int .i64 s]
  have b3 := Bk.new (((w.alloc (.cells #[.slice (some ⟨g, o, none⟩) n cap] 23)).alloc (.cells #[.int .i64 t] 2)).alloc (.cells #[.int .i64 s] 3)) 28 [.int .u64 v]
  simp only [World.size_alloc] at b0 b1 b2 b3
  have hb4 : Below w.heap.size w ((((w.alloc (.cells #[.slice (some ⟨g, o, none⟩) n cap] 23)).alloc (.cells #[.int .i64 t] 2)).alloc (.cells #[.int .i64 s] 3)).alloc (.cells #[.int .u64 v] 28)) := (((((Below.refl _ _).alloc (Nat.le_refl _) _).alloc (by simp) _).alloc (by simp; omega) _).alloc (by simp; omega) _)
  refine (set_caught_in w.heap.size (w.heap.size + 1) (w.heap.size + 1 + 1) (w.heap.size + 1 + 1 + 1) g n cap o T pr po ho xs t s v _ 
    (((b0.alloc _).alloc _).alloc _) ((b1.alloc _).alloc _) (b2.alloc _) b3 ((((b.alloc _).alloc _).alloc _).alloc _) (by omega) (by omega) hn hnx ht ht2 hv0 hv2).mono ?_
  rintro e w1 ⟨rfl, hb3, hgr⟩
  have hgr' := gr_trans (gr_below hb4 (some g)) hgr
  clear b0 b1 b2 b3 hb4 hgr
  go_wp2
  go_ret
  exact ⟨rfl, hb3, hgr'⟩
end Go.Proofs.Ytbfegghkipoppaa
