/- Contracts of the statement kit's functions on bytes, over this seat's program. -/
import Derived.Test.YtjacbbefdmnmaaaSame
namespace Go.Proofs.Ytjacbbefdmnmaaa
open Go.RowKit
theorem mark_any (k i : Int) (w : World) (h0 : 0 ≤ k) (h1 : k ≤ 1000000000) (h2 : 0 ≤ i) (h3 : i ≤ 1000000000000000) :
    Calls Try.prog 25 #[.int .i64 k, .int .i64 i] w fun e w' => e = .returned (.int .i64 (1000003 * (k + 7) + i)) ∧ w = w' := by
  go_enter Try.func25, Try.ntmps25
  go_wp2
  go_ret
  exact ⟨rfl, rfl⟩
/-- The mark of a place in a list of bytes. -/
def markB (k i : Int) : Int := IntKind.u64.wrap ((1000003 * (k + 7) + i) * 11400714819323198485) / 72057594037927936 % 256
theorem markByte_any (k i : Int) (w : World) (h0 : 0 ≤ k) (h1 : k ≤ 1000000000) (h2 : 0 ≤ i) (h3 : i ≤ 1000000000000000) :
    Calls Try.prog 17 #[.int .i64 k, .int .i64 i] w fun e w' => e = .returned (.int .u8 (markB k i)) ∧ w = w' := by
  go_enter Try.func17, Try.ntmps17
  go_wp2_with (go_at_call 25; refine (mark_any _ _ _ (by omega) (by omega) (by omega) (by omega)).mono ?_; rintro e w' ⟨rfl, rfl⟩)
  go_ret
  exact ⟨rfl, rfl⟩
theorem markB_range (k i : Int) : 0 ≤ markB k i ∧ markB k i < 256 := by unfold markB; omega

theorem u8_info : (Try.prog.info? 5).map (fun i => (i.zero, i.size, i.bytes)) = some (some (.int .u8 0), 1, 1) := by kernel_rfl

/-- The marks behind what is lent. -/
def marks (k : Nat) : List Int := (List.range k).map fun (i : Nat) => markB 1 (i : Int)
@[simp] theorem marks_len (k : Nat) : (marks k).length = k := by simp [marks]
theorem marks_succ (k : Nat) : marks (k + 1) = marks k ++ [markB 1 (k : Int)] := by simp [marks, List.range_succ]

/-- Block g is just the cells cs, none frozen. -/
def Bk (w : World) (g : Nat) (t : TypeId) (cs : List Value) : Prop := w.heap[g]? = some (.cells cs.toArray t (0, 0))

theorem own_all {w : World} {base e g n cap : Nat} {xs : List Value} (h : w.ownsRow base e 1 (.slice (some ⟨g, 0, none⟩) n cap) n xs) (hc : cap ≤ n) : Bk w g e xs := by
  rcases h.2 with ⟨h', _⟩ | ⟨g', cap', cur, h', _, hg, hnc, hcm, hcs, htake⟩
  · simp at h'
  · simp only [Value.slice.injEq, Option.some.injEq, Addr.mk.injEq, and_true, true_and] at h'
    obtain ⟨rfl, rfl⟩ := h'
    unfold Bk
    rw [hg, ← htake, List.take_of_length_le (by simp; omega)]

theorem u8s_one (l : List Int) : ∀ u ∈ u8s l, u.oneCell' = true := by unfold u8s; exact ints_oneCell _ _
theorem u8s_app (a b : List Int) : u8s (a ++ b) = u8s a ++ u8s b := by simp [u8s]

theorem lent_any (A : Option Addr) (c : Nat) (xs : List Int) (w : World) (ha : Rd w w.heap.size A c (u8s xs))
    (hn : xs.length ≤ 1000000) :
    Calls Try.prog 8 #[.slice A xs.length c] w fun e w' => e = .returned (.slice (some ⟨w.heap.size, 0, none⟩) xs.length (xs.length + 12)) ∧
      Bk w' w.heap.size 5 (u8s (xs ++ marks 12)) ∧ Below w.heap.size w w' := by
  obtain ⟨i0, hi, hz0, hz1, hz2⟩ := info_parts u8_info
  go_enter Try.func8, Try.ntmps8
  go_wp2_with (first
   | (at_make; refine wpList_make_own _ rfl _ _ 22 rfl w.heap.size 5 i0 (.int .u8 0) 1 Try.underlying22 hi hz0 hz1 _ _ _ (xs.length + 12) rfl rfl (by omega) (by rw [hz2]; omega) (by unfold maxLen; omega) (by omega) ?_; intro w1 hown1 hgrow1; have hb1 := (Below.refl w.heap.size w).grown hgrow1 (Nat.le_refl _) (by simp))
   | (at_builtin; refine wpList_append_fits_any _ rfl (.tmp 9) (.tmp 10) 22 rfl w.heap.size 5 i0 1 Try.underlying22 hi hz1 w.heap.size 0 (xs.length + 12) [] rfl hown1 A xs.length c (u8s xs) rfl (by simp) (by intro e; have := ha.nonone e; simpa using this) (ha.below hb1).cells (u8s_one _) (by omega) ?_; intro w2 hown2 hgrow2))
  clear hgrow1 hown1
  have hb2 := hb1.grown hgrow2 hb1.size (by intro k e; injection e with e; omega)
  simp only [Nat.zero_add, List.nil_append] at hown2
  clear hgrow2 
  go_loopw [3, 4] (fun v i wr => ∃ k : Nat, k ≤ 12 ∧ i = .int .i64 k ∧ v = .slice (some ⟨w.heap.size, 0, none⟩) (xs.length + k) (xs.length + 12) ∧ wr.ownsRow w.heap.size 5 1 (.slice (some ⟨w.heap.size, 0, none⟩) (xs.length + k) (xs.length + 12)) (xs.length + k) (u8s (xs ++ marks k)) ∧ Below w.heap.size w wr) (fun _ i _ => 12 - (intOf i).toNat)
  case atStart => exact ⟨0, Nat.zero_le _, rfl, rfl, by simpa [marks] using hown2, hb2⟩
  case round =>
    clear hb2 hb1 hown2
    obtain ⟨k, hk, rfl, rfl, hown, hb⟩ := hrel
    by_cases hlt : k < 12
    · go_wp2_with (first
       | (go_at_call 17; refine (markByte_any _ _ _ (by omega) (by omega) (by omega) (by omega)).mono ?_; rintro e w' ⟨rfl, rfl⟩)
       | (at_builtin; refine wpList_append_fits _ rfl _ _ 22 rfl w.heap.size 5 i0 1 Try.underlying22 hi hz1 w.heap.size (xs.length + k) (xs.length + 12) (u8s (xs ++ marks k)) rfl (hown.alloc _) ⟨wr.heap.size, 0, none⟩ 1 1 [.int .u8 (markB 1 k)] rfl rfl ?c1 ?c2 ?c3 ?_))
      case c1 => 
        intro j u hj
        match j, hj with
        | 0, hj => simp at hj; subst hj; simp [Addr.add]
      case c2 => intro u hu; simp at hu; subst hu; rfl
      case c3 => omega
      intro w3 hown3 hgrow3
      have hb3 := (hb.alloc hb.size _).grown hgrow3 (by have := hb.size; simp; omega) (by intro k e; injection e with e; omega)
      go_wp2
      go_roundw
      case rel => exact ⟨k + 1, by omega, by go_num, rfl, by rw [marks_succ, ← List.append_assoc, u8s_app]; exact hown3, hb3⟩
      case measure => simp [intOf]; omega
    · obtain rfl : k = 12 := by omega
      go_wp2
      go_ret
      exact ⟨rfl, own_all hown (by omega), hb⟩
end Go.Proofs.Ytjacbbefdmnmaaa
