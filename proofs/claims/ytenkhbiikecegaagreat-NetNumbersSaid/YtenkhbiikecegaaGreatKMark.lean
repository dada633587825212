/- Marks; LentBytes, KeptBytes, OverBytes, CopyBytes, Pick: over this seat's program. -/
import Derived.Test.YtenkhbiikecegaaGreatKSame
import Derived.OwnWalk
namespace Go.Proofs.YtenkhbiikecegaaGreat
open Go.RowKit
set_option linter.unusedVariables false
set_option maxRecDepth 100000

theorem mark_any (k i : Int) (w : World) (h0 : 0 ≤ k) (h1 : k ≤ 1000000000) (h2 : 0 ≤ i) (h3 : i ≤ 1000000000000000) :
    Calls Tryz.prog 72 #[.int .i64 k, .int .i64 i] w fun e w' => e = .returned (.int .i64 (1000003 * (k + 7) + i)) ∧ w = w' := by
  go_enter Tryz.func72, Tryz.ntmps72
  go_wp2
  go_ret
  exact ⟨rfl, rfl⟩
/-- The mark of a place in a list of bytes. -/
def markB (k i : Int) : Int := IntKind.u64.wrap ((1000003 * (k + 7) + i) * 11400714819323198485) / 72057594037927936 % 256
theorem markByte_any (k i : Int) (w : World) (h0 : 0 ≤ k) (h1 : k ≤ 1000000000) (h2 : 0 ≤ i) (h3 : i ≤ 1000000000000000) :
    Calls Tryz.prog 44 #[.int .i64 k, .int .i64 i] w fun e w' => e = .returned (.int .u8 (markB k i)) ∧ w = w' := by
  go_enter Tryz.func44, Tryz.ntmps44
  go_wp2_with (go_at_call 72; refine (mark_any _ _ _ (by omega) (by omega) (by omega) (by omega)).mono ?_; rintro e w' ⟨rfl, rfl⟩)
  go_ret
  exact ⟨rfl, rfl⟩
theorem markB_range (k i : Int) : 0 ≤ markB k i ∧ markB k i < 256 := by unfold markB; omega

theorem u8_info : (Tryz.prog.info? 5).map (fun i => (i.zero, i.size, i.bytes)) = some (some (.int .u8 0), 1, 1) := by kernel_rfl

/-- The marks behind what is lent. -/
def marks (k : Nat) : List Int := (List.range k).map fun (i : Nat) => markB 1 (i : Int)
@[simp] theorem marks_len (k : Nat) : (marks k).length = k := by simp [marks]
theorem marks_succ (k : Nat) : marks (k + 1) = marks k ++ [markB 1 (k : Int)] := by simp [marks, List.range_succ]

theorem own_all {w : World} {base e g n cap : Nat} {xs : List Value} (h : w.ownsRow base e 1 (.slice (some ⟨g, 0, none⟩) n cap) n xs) (hc : cap ≤ n) : Bk w g e xs := by
  rcases h.2 with ⟨h', _⟩ | ⟨g', cap', cur, h', _, hg, hnc, hcm, hcs, htake⟩
  · simp at h'
  · simp only [Value.slice.injEq, Option.some.injEq, Addr.mk.injEq, and_true, true_and] at h'
    obtain ⟨rfl, rfl⟩ := h'
    unfold Bk
    rw [hg, ← htake, List.take_of_length_le (by simp; omega)]

theorem lent_any (K : Nat → Prop) (A : Option Addr) (c : Nat) (xs : List Int) (w : World) (ha : Rd w K A c (u8s xs)) (hK : ∀ b, K b → b < w.heap.size)
    (hn : xs.length ≤ 1000000) :
    Calls Tryz.prog 25 #[.slice A xs.length c] w fun e w' => e = .returned (.slice (some ⟨w.heap.size, 0, none⟩) xs.length (xs.length + 12)) ∧
      Bk w' w.heap.size 5 (u8s (xs ++ marks 12)) ∧ Below w.heap.size w w' := by
  obtain ⟨i0, hi, hz0, hz1, hz2⟩ := info_parts u8_info
  go_enter Tryz.func25, Tryz.ntmps25
  go_wp2_with (first
   | (at_make; refine wpList_make_own _ rfl _ _ 28 rfl w.heap.size 5 i0 (.int .u8 0) 1 Tryz.underlying28 hi hz0 hz1 _ _ _ (xs.length + 12) rfl rfl (by omega) (by rw [hz2]; omega) (by unfold maxLen; omega) (by omega) ?_; intro w1 hown1 hgrow1; have hb1 := (Below.refl w.heap.size w).grown hgrow1 (Nat.le_refl _) (by simp))
   | (at_builtin; refine wpList_append_fits_any _ rfl (.tmp 9) (.tmp 10) 28 rfl w.heap.size 5 i0 1 Tryz.underlying28 hi hz1 w.heap.size 0 (xs.length + 12) [] rfl hown1 A xs.length c (u8s xs) rfl (by simp) (by intro e; have := ha.nonone e; simpa using this) (ha.keep (K' := K) (fun b hb => hb1.block b (hK b hb)) (fun _ h => h)).cells (u8s_one _) (by omega) ?_; intro w2 hown2 hgrow2))
  clear hgrow1 hown1
  have hb2 := hb1.grown hgrow2 hb1.size (by intro k e; injection e with e; omega)
  simp only [Nat.zero_add, List.nil_append] at hown2
  clear hgrow2 
  go_loopw [3, 4] (fun v i wr => ∃ k : Nat, k ≤ 12 ∧ i = .int .i64 k ∧ v = .slice (some ⟨w.heap.size, 0, none⟩) (xs.length + k) (xs.length + 12) ∧ wr.ownsRow w.heap.size 5 1 (.slice (some ⟨w.heap.size, 0, none⟩) (xs.length + k) (xs.length + 12)) (xs.length + k) (u8s (xs ++ marks k)) ∧ Below w.heap.size w wr) (fun _ i _ => 12 - (intOf i).toNat)
  case atStart => exact ⟨0, Nat.zero_le _, rfl, rfl, by simpa [marks] using hown2, hb2⟩
  case round =>
    clear hb2 hb1 hown2
    obtain ⟨k, hk, rfl, rfl, hown, hb⟩ := hrel
    by_cases hlt : k < 12
    · go_wp2_with (first
       | (go_at_call 44; refine (markByte_any _ _ _ (by omega) (by omega) (by omega) (by omega)).mono ?_; rintro e w' ⟨rfl, rfl⟩)
       | (at_builtin; refine wpList_append_fits _ rfl _ _ 28 rfl w.heap.size 5 i0 1 Tryz.underlying28 hi hz1 w.heap.size (xs.length + k) (xs.length + 12) (u8s (xs ++ marks k)) rfl (hown.alloc _) ⟨wr.heap.size, 0, none⟩ 1 1 [.int .u8 (markB 1 k)] rfl rfl ?c1 ?c2 ?c3 ?_))
      case c1 => 
        intro j u hj
        match j, hj with
        | 0, hj => simp at hj; subst hj; simp [Addr.add]
      case c2 => intro u hu; simp at hu; subst hu; rfl
      case c3 => omega
      intro w3 hown3 hgrow3
      have hb3 := (hb.alloc hb.size _).grown hgrow3 (by have := hb.size; simp; omega) (by intro k e; injection e with e; omega)
      go_wp2
      go_roundw
      case rel => exact ⟨k + 1, by omega, by go_num, rfl, by rw [marks_succ, ← List.append_assoc, u8s_app]; exact hown3, hb3⟩
      case measure => simp [intOf]; omega
    · obtain rfl : k = 12 := by omega
      go_wp2
      go_ret
      exact ⟨rfl, own_all hown (by omega), hb⟩
theorem Bk.u8 {w : World} {g : Nat} {l : List Int} (h : Bk w g 5 (u8s l)) {k : Nat} (hk : k < l.length) : ∃ x, w.cell? ⟨g, k, none⟩ = some (.int .u8 x) ∧ Hid (l[k]? = some x) :=
  ⟨l[k], by rw [h.cell]; simp [u8s, hk], List.getElem?_eq_getElem hk⟩

/-- A call that leaves the world alone, inside a region that draws, behind other draws. -/
theorem qadd {P : Program} {f : FuncId} {args : Array Value} {w : World} {a n : Nat} {v : Value}
    (h : Calls P f args (w.drewN (a + n)) fun e w' => e = .returned v ∧ w.drewN (a + n) = w') :
    Calls P f args (w.drewN (a + n)) fun e w'' => e = .returned v ∧ ∃ m, w'' = w.drewN (a + m) :=
  h.mono fun _ _ h => ⟨h.1, n, h.2.symm⟩

set_option maxHeartbeats 400000 in
theorem kept_any (g n : Nat) (B : Option Addr) (d : Nat) (os ys : List Int) (w : World) (ho : Bk w g 5 (u8s os)) (K : Nat → Prop) (hb : Rd w K B d (u8s ys))
    (hn : os.length = n + 12) (hm : ys.length ≤ 1000000) (hm' : n ≤ 1000000) :
    Calls Tryz.prog 26 #[.slice (some ⟨g, 0, none⟩) n (n + 12), .slice B ys.length d] w fun e w' => e = .returned (.bool (decide (os = ys ++ marks 12))) ∧ ∃ k, w' = w.drewN k := by
  by_cases hl : n = ys.length
  · subst hl
    have HN := Lib.hid hn
    clear hn
    go_enter Tryz.func26, Tryz.ntmps26
    go_wp2
    go_loopw [6] (fun i wr => ∃ k q : Nat, k ≤ ys.length + 12 ∧ i = .int .i64 k ∧ Agree os (ys ++ marks 12) k ∧ wr = w.drewN q) (fun i _ => ys.length + 12 - (intOf i).toNat)
    case atStart => exact ⟨0, 0, Nat.zero_le _, rfl, fun j hj => absurd hj (by omega), rfl⟩
    case round =>
      obtain ⟨k, q, hk, rfl, hag, rfl⟩ := hrel
      have HA := Lib.hid hag
      clear hag
      by_cases hlt : k < ys.length
      · obtain ⟨x, ca, hx⟩ := ho.u8 (k := k) (by have := HN.out; omega)
        obtain ⟨b, y, rfl, _, cb, hy⟩ := hb.at_ hlt
        have h1 : decide (k < ys.length) = true := by simpa using hlt
        have h2 : decide (ys.length ≤ k) = false := by simpa using hlt
        by_cases he : x = y
        · have hb' : (x == y) = true := by simp [he]
          have HE : Hid (os[k]? = (ys ++ marks 12)[k]?) := by rw [hx.out, List.getElem?_append_left hlt, hy.out, he]; exact rfl
          clear he
          go_wp2
          go_quiet (fail)
          go_wp2
          go_roundw
          case rel => exact ⟨k + 1, _, by omega, by go_num, HA.out.succ HE.out, rfl⟩
          case measure => simp [intOf]; omega
        · have hb' : (x == y) = false := by simp [he]
          have HE : Hid (os ≠ ys ++ marks 12) := by
            intro e; have h1 := hx.out; rw [e, List.getElem?_append_left hlt, hy.out] at h1; injection h1 with h1; exact he h1.symm
          clear he
          go_wp2
          go_quiet (fail)
          go_wp2
          go_ret
          exact ⟨by simp [HE.out], _, World.drewN_drewN _ _ _⟩
      · by_cases hlt2 : k < ys.length + 12
        · obtain ⟨x, ca, hx⟩ := ho.u8 (k := k) (by have := HN.out; omega)
          have h1 : decide (k < ys.length) = false := by simpa using hlt
          have h2 : decide (ys.length ≤ k) = true := by simpa using hlt
          have hj : (marks 12)[k - ys.length]? = some (markB 1 ((k : Int) - ys.length)) := by
            simp [marks, show k - ys.length < 12 by omega, show (((k - ys.length : Nat) : Int)) = (k : Int) - ys.length by omega]
          have HJ := Lib.hid hj
          clear hj
          have hw : IntKind.i64.wrap ((k : Int) - ys.length) = (k : Int) - ys.length := IntWalk.i64_in _ (by omega)
          by_cases he : x = markB 1 ((k : Int) - ys.length)
          · have hb' : (x == markB 1 ((k : Int) - ys.length)) = true := by simp [he]
            have HE : Hid (os[k]? = (ys ++ marks 12)[k]?) := by
              rw [hx.out, List.getElem?_append_right (by omega), HJ.out, he]; exact rfl
            clear he
            go_wp2
            go_quiet ((go_at_call 44; exact qadd (markByte_any _ _ _ (by omega) (by omega) (by omega) (by omega))))
            go_wp2
            go_roundw
            case rel => exact ⟨k + 1, _, by omega, by go_num, HA.out.succ HE.out, rfl⟩
            case measure => simp [intOf]; omega
          · have hb' : (x == markB 1 ((k : Int) - ys.length)) = false := by simp [he]
            have HE : Hid (os ≠ ys ++ marks 12) := by
              intro e; have h1 := hx.out; rw [e, List.getElem?_append_right (by omega), HJ.out] at h1; injection h1 with h1; exact he h1.symm
            clear he
            go_wp2
            go_quiet ((go_at_call 44; exact qadd (markByte_any _ _ _ (by omega) (by omega) (by omega) (by omega))))
            go_wp2
            go_ret
            exact ⟨by simp [HE.out], _, World.drewN_drewN _ _ _⟩
        · go_wp2
          go_ret
          exact ⟨by simp [HA.out.all (by have := HN.out; omega) (by simp [HN.out])], _, rfl⟩
  · have hne : ((n : Int) != (ys.length : Int)) = true := by simp; omega
    go_enter Tryz.func26, Tryz.ntmps26
    go_wp2
    go_ret
    refine ⟨?_, 0, rfl⟩
    have : os ≠ ys ++ marks 12 := fun e => hl (by have := congrArg List.length e; simp at this; omega)
    simp [this]

/-- Block g alone is turned, of so many cells still. -/
def Over (g : Nat) (t : TypeId) (n : Nat) (w w' : World) : Prop := (∃ cs, Bk w' g t cs ∧ cs.length = n) ∧ Ag (fun k => k ≠ g) w w'
theorem OverBytes_any (g n : Nat) (cs : List Value) (w : World) (h : Bk w g 5 cs) (hl : cs.length = n + 12) (hn : n ≤ 1000000) :
    Calls Tryz.prog 27 #[.slice (some ⟨g, 0, none⟩) n (n + 12)] w fun e w' => (∃ r, e = .returned r) ∧ Over g 5 (n + 12) w w' := by
  go_enter Tryz.func27, Tryz.ntmps27
  have HL := Lib.hid hl
  clear hl
  go_wp2_with fail
  go_loopw [3] (fun i wr => ∃ k : Nat, k ≤ n + 12 ∧ i = .int .i64 k ∧ Over g 5 (n + 12) w wr) (fun i _ => n + 12 - (intOf i).toNat)
  case atStart => exact ⟨0, Nat.zero_le _, rfl, ⟨cs, h, HL.out⟩, Ag.refl _ _⟩
  case round =>
    obtain ⟨k, hk, rfl, ⟨cs', hb, hl'⟩, hag⟩ := hrel
    have HL' := Lib.hid hl'
    clear hl'
    by_cases hlt : k < n + 12
    · have d1 : decide ((k : Int) < (n : Int) + 12) = true := decide_eq_true (by omega)
      have hf := frozen_blk hb k
      have hc : wr.cell? ⟨g, k, none⟩ = some (cs'[k]'(by have := HL'.out; omega)) := by rw [hb.cell]; exact List.getElem?_eq_getElem _
      go_wp2_with (go_at_call 44; refine (markByte_any _ _ _ (by omega) (by omega) (by omega) (by omega)).mono ?_; rintro e w' ⟨rfl, rfl⟩)
      go_roundw
      case rel => exact ⟨k + 1, by omega, by go_num, ⟨_, hb.set k _, by simp [HL'.out]⟩, hag.setCell (fun _ h => h rfl) _⟩
      case measure => simp [intOf]; omega
    · have d1 : decide ((k : Int) < (n : Int) + 12) = false := decide_eq_false (by omega)
      go_wp2_with fail
      go_end0
      exact ⟨⟨_, rfl⟩, ⟨cs', hb, HL'.out⟩, hag⟩
end Go.Proofs.YtenkhbiikecegaaGreat
