/- Contracts of the statement kit's functions on bytes, over this seat's program. -/
import Derived.Test.YtjacbbefdmnmaaaMark
namespace Go.Proofs.Ytjacbbefdmnmaaa
open Go.RowKit

theorem Bk.cell {w : World} {g : Nat} {t : TypeId} {cs : List Value} (h : Bk w g t cs) (i : Nat) : w.cell? ⟨g, i, none⟩ = cs[i]? := by
  have := cell_of_row w g i cs.toArray t (0, 0) h
  simpa using this
theorem Bk.u8 {w : World} {g : Nat} {l : List Int} (h : Bk w g 5 (u8s l)) {k : Nat} (hk : k < l.length) : ∃ x, w.cell? ⟨g, k, none⟩ = some (.int .u8 x) ∧ Hid (l[k]? = some x) :=
  ⟨l[k], by rw [h.cell]; simp [u8s, hk], List.getElem?_eq_getElem hk⟩

/-- A call that leaves the world alone, inside a region that draws, behind other draws. -/
theorem qadd {P : Program} {f : FuncId} {args : Array Value} {w : World} {a n : Nat} {v : Value}
    (h : Calls P f args (w.drewN (a + n)) fun e w' => e = .returned v ∧ w.drewN (a + n) = w') :
    Calls P f args (w.drewN (a + n)) fun e w'' => e = .returned v ∧ ∃ m, w'' = w.drewN (a + m) :=
  h.mono fun _ _ h => ⟨h.1, n, h.2.symm⟩

set_option maxHeartbeats 400000 in
theorem kept_any (g n : Nat) (B : Option Addr) (d : Nat) (os ys : List Int) (w : World) (ho : Bk w g 5 (u8s os)) (hb : Rd w w.heap.size B d (u8s ys))
    (hn : os.length = n + 12) (hm : ys.length ≤ 1000000) (hm' : n ≤ 1000000) :
    Calls Try.prog 10 #[.slice (some ⟨g, 0, none⟩) n (n + 12), .slice B ys.length d] w fun e w' => e = .returned (.bool (decide (os = ys ++ marks 12))) ∧ ∃ k, w' = w.drewN k := by
  by_cases hl : n = ys.length
  · subst hl
    have HN := Lib.hid hn
    clear hn
    go_enter Try.func10, Try.ntmps10
    go_wp2
    go_loopw [6] (fun i wr => ∃ k q : Nat, k ≤ ys.length + 12 ∧ i = .int .i64 k ∧ Agree os (ys ++ marks 12) k ∧ wr = w.drewN q) (fun i _ => ys.length + 12 - (intOf i).toNat)
    case atStart => exact ⟨0, 0, Nat.zero_le _, rfl, fun j hj => absurd hj (by omega), rfl⟩
    case round =>
      obtain ⟨k, q, hk, rfl, hag, rfl⟩ := hrel
      have HA := Lib.hid hag
      clear hag
      by_cases hlt : k < ys.length
      · obtain ⟨x, ca, hx⟩ := ho.u8 (k := k) (by have := HN.out; omega)
        obtain ⟨b, y, rfl, _, cb, hy⟩ := hb.at_ hlt
        have h1 : decide (k < ys.length) = true := by simpa using hlt
        have h2 : decide (ys.length ≤ k) = false := by simpa using hlt
        by_cases he : x = y
        · have hb' : (x == y) = true := by simp [he]
          have HE : Hid (os[k]? = (ys ++ marks 12)[k]?) := by rw [hx.out, List.getElem?_append_left hlt, hy.out, he]; exact rfl
          clear he
          go_wp2
          go_quiet (fail)
          go_wp2
          go_roundw
          case rel => exact ⟨k + 1, _, by omega, by go_num, HA.out.succ HE.out, rfl⟩
          case measure => simp [intOf]; omega
        · have hb' : (x == y) = false := by simp [he]
          have HE : Hid (os ≠ ys ++ marks 12) := by
            intro e; have h1 := hx.out; rw [e, List.getElem?_append_left hlt, hy.out] at h1; injection h1 with h1; exact he h1.symm
          clear he
          go_wp2
          go_quiet (fail)
          go_wp2
          go_ret
          exact ⟨by simp [HE.out], _, World.drewN_drewN _ _ _⟩
      · by_cases hlt2 : k < ys.length + 12
        · obtain ⟨x, ca, hx⟩ := ho.u8 (k := k) (by have := HN.out; omega)
          have h1 : decide (k < ys.length) = false := by simpa using hlt
          have h2 : decide (ys.length ≤ k) = true := by simpa using hlt
          have hj : (marks 12)[k - ys.length]? = some (markB 1 ((k : Int) - ys.length)) := by
            simp [marks, show k - ys.length < 12 by omega, show (((k - ys.length : Nat) : Int)) = (k : Int) - ys.length by omega]
          have HJ := Lib.hid hj
          clear hj
          have hw : IntKind.i64.wrap ((k : Int) - ys.length) = (k : Int) - ys.length := IntWalk.i64_in _ (by omega)
          by_cases he : x = markB 1 ((k : Int) - ys.length)
          · have hb' : (x == markB 1 ((k : Int) - ys.length)) = true := by simp [he]
            have HE : Hid (os[k]? = (ys ++ marks 12)[k]?) := by
              rw [hx.out, List.getElem?_append_right (by omega), HJ.out, he]; exact rfl
            clear he
            go_wp2
            go_quiet ((go_at_call 17; exact qadd (markByte_any _ _ _ (by omega) (by omega) (by omega) (by omega))))
            go_wp2
            go_roundw
            case rel => exact ⟨k + 1, _, by omega, by go_num, HA.out.succ HE.out, rfl⟩
            case measure => simp [intOf]; omega
          · have hb' : (x == markB 1 ((k : Int) - ys.length)) = false := by simp [he]
            have HE : Hid (os ≠ ys ++ marks 12) := by
              intro e; have h1 := hx.out; rw [e, List.getElem?_append_right (by omega), HJ.out] at h1; injection h1 with h1; exact he h1.symm
            clear he
            go_wp2
            go_quiet ((go_at_call 17; exact qadd (markByte_any _ _ _ (by omega) (by omega) (by omega) (by omega))))
            go_wp2
            go_ret
            exact ⟨by simp [HE.out], _, World.drewN_drewN _ _ _⟩
        · go_wp2
          go_ret
          exact ⟨by simp [HA.out.all (by have := HN.out; omega) (by simp [HN.out])], _, rfl⟩
  · have hne : ((n : Int) != (ys.length : Int)) = true := by simp; omega
    go_enter Try.func10, Try.ntmps10
    go_wp2
    go_ret
    refine ⟨?_, 0, rfl⟩
    have : os ≠ ys ++ marks 12 := fun e => hl (by have := congrArg List.length e; simp at this; omega)
    simp [this]

theorem copy_any (A : Option Addr) (c : Nat) (xs : List Int) (w : World) (ha : Rd w w.heap.size A c (u8s xs)) (hn : xs.length ≤ 1000000) :
    Calls Try.prog 14 #[.slice A xs.length c] w fun e w' => ∃ v, e = .returned v ∧ w'.ownsRow w.heap.size 5 1 v xs.length (u8s xs) ∧ Below w.heap.size w w' := by
  obtain ⟨i0, hi, hz0, hz1, hz2⟩ := info_parts u8_info
  cases A with
  | none =>
    obtain ⟨hx, hc⟩ := ha.nonone rfl
    obtain rfl : xs = [] := by simpa using hx
    subst hc
    clear hx
    go_enter Try.func14, Try.ntmps14
    go_wp2
    go_ret
    exact ⟨_, rfl, World.ownsRow_nil _ _ _ _, Below.refl _ _⟩
  | some a =>
    have H := Lib.hid ha
    clear ha
    go_enter Try.func14, Try.ntmps14
    go_wp2_with (at_builtin; refine wpList_append_own _ rfl _ _ 22 rfl w.heap.size 5 i0 (.int .u8 0) 1 1 Try.underlying22 hi hz0 hz1 hz2 rfl (by decide) (.slice none 0 0) 0 [] rfl (World.ownsRow_nil _ _ _ _) a xs.length c (u8s xs) rfl (by simp) (H.out.cells a rfl) (u8s_one _) (by unfold maxLen; omega) (by omega) (Nat.le_refl _) ?_; intro v' w1 hown hgrow hv)
    go_ret
    simp only [Nat.zero_add, List.nil_append] at hown
    exact ⟨_, rfl, hown, (Below.refl _ _).grown hgrow (Nat.le_refl _) (by simp [Value.ownBlock])⟩

/-- What Pick answers. -/
def pickI (x n : Int) : Int := if n < 1 then 0 else x % n
theorem pickI_range (x n : Int) (h : 1 ≤ n) : 0 ≤ pickI x n ∧ pickI x n < n := by
  unfold pickI
  rw [if_neg (by omega)]
  exact ⟨Int.emod_nonneg _ (by omega), Int.emod_lt_of_pos _ (by omega)⟩
theorem tmod_lo (x n : Int) (h : 1 ≤ n) : -n < x.tmod n ∧ x.tmod n < n := by
  have h1 := Int.tmod_lt_of_pos x (by omega : 0 < n)
  have h2 := Int.tmod_lt_of_pos (-x) (by omega : 0 < n)
  rw [Int.neg_tmod] at h2
  exact ⟨by omega, h1⟩
theorem pick_neg (x n : Int) (h : 1 ≤ n) (h0 : x.tmod n < 0) : x.tmod n + n = pickI x n := by
  have h1 := tmod_lo x n h
  unfold pickI
  rw [if_neg (by omega)]
  have e : x % n = (x.tmod n + n) % n := by
    rw [Int.add_emod_right]
    have := Int.mul_tdiv_add_tmod x n
    conv => lhs; rw [← this]
    rw [Int.add_comm, Int.add_mul_emod_self_left]
  rw [e, Int.emod_eq_of_lt (by omega) (by omega)]
theorem pick_pos (x n : Int) (h : 1 ≤ n) (h0 : 0 ≤ x.tmod n) : x.tmod n = pickI x n := by
  have h1 := tmod_lo x n h
  unfold pickI
  rw [if_neg (by omega)]
  have e : x % n = (x.tmod n) % n := by
    have := Int.mul_tdiv_add_tmod x n
    conv => lhs; rw [← this]
    rw [Int.add_comm, Int.add_mul_emod_self_left]
  rw [e, Int.emod_eq_of_lt (by omega) (by omega)]
theorem pick_any (x n : Int) (w : World) (h1 : 1 ≤ n) (h2 : n ≤ 9223372036854775807) :
    Calls Try.prog 12 #[.int .i64 x, .int .i64 n] w fun e w' => e = .returned (.int .i64 (pickI x n)) ∧ w = w' := by
  have hb := tmod_lo x n h1
  go_enter Try.func12, Try.ntmps12
  go_wp2
  · have h0 : x.tmod n < 0 := by assumption
    go_ret
    exact ⟨congrArg (fun z => Ending.returned (.int .i64 z)) (pick_neg x n h1 h0), rfl⟩
  · have h0 : 0 ≤ x.tmod n := by assumption
    go_ret
    exact ⟨congrArg (fun z => Ending.returned (.int .i64 z)) (pick_pos x n h1 h0), rfl⟩
end Go.Proofs.Ytjacbbefdmnmaaa
