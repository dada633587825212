/- The statements' own functions awake, gets, sets, over this seat's program. -/
import Derived.Test.YtjacbbefdmnmaaaSet1
namespace Go.Proofs.Ytjacbbefdmnmaaa
open Go.RowKit Go.Shelf
set_option linter.unusedVariables false

theorem Bk.rd {w : World} {g B c : Nat} {cs : List Value} (h : Bk w g 5 cs) (hg : g < B) (k : Nat) : Rd w B (some ⟨g, 0, none⟩) c (cs.take k) :=
  ⟨fun e => (by cases e), fun _ => ⟨_, rfl, hg, fun j u hu => by
    rw [Addr.add_lit, Nat.zero_add, h.cell]
    rw [List.getElem?_take] at hu
    split at hu
    · exact hu
    · cases hu⟩⟩
theorem Bk.rdAll {w : World} {g B c : Nat} {cs : List Value} (h : Bk w g 5 cs) (hg : g < B) : Rd w B (some ⟨g, 0, none⟩) c cs := by
  have := h.rd (c := c) hg cs.length
  rwa [List.take_length] at this

theorem below_drewN {B : Nat} {a w : World} (h : Below B a w) (n : Nat) : Below B a (w.drewN n) := ⟨h.os, h.tape, h.output, h.size, h.block⟩

theorem get_123 (t s x e : Int) (g : Nat) (w : World) (b : Bk w g 5 (u8s [1, 2, 3])) (ht : 0 ≤ t) (ht2 : t ≤ 10) (h1 : getR [1, 2, 3] t s = x) (h2 : errOf 3 t s = e) :
    Calls Try.prog 15 #[.slice (some ⟨g, 0, none⟩) 3 3, .int .i64 t, .int .i64 s] w fun r w' => r = .returned (.tuple #[.int .u64 x, .int .i64 e]) ∧ Below w.heap.size w w' := by
  subst h1
  subst h2
  exact get_any (some ⟨g, 0, none⟩) 3 [1, 2, 3] t s w (b.rdAll b.lt) (by intro x hx; simp at hx; omega) (by simp) (by omega) (by omega)

theorem awake_any (w : World) : Calls Try.prog 7 #[] w fun e w' => e = .returned (.bool true) ∧ Below w.heap.size w w' := by
  have b0 := Bk.new w 5 (u8s [1, 2, 3])
  have hB0 : Below w.heap.size w (w.alloc (.cells (u8s [1, 2, 3]).toArray 5)) := (Below.refl _ _).alloc (Nat.le_refl _) _
  have B0 := Lib.hid b0
  have HB0 := Lib.hid hB0
  clear b0 hB0
  go_enter Try.func7, Try.ntmps7
  go_wp2_with fail
  refine (get_123 0 2 258 0 _ _ B0.out (by decide) (by decide) (by decide) (by decide)).mono ?_
  rintro e w1 ⟨rfl, hb1⟩
  have b1 := B0.out.below hb1 B0.out.lt
  have hB1 := HB0.out.trans (hb1.mono (by simp))
  clear hb1 B0 HB0
  go_wp2_with fail
  refine (get_123 1 2 515 0 _ _ b1 (by decide) (by decide) (by decide) (by decide)).mono ?_
  rintro e w2 ⟨rfl, hb2⟩
  have b2 := b1.below hb2 b1.lt
  have hB2 := hB1.trans (hb2.mono hB1.size)
  clear hb2 b1 hB1
  go_wp2_with fail
  refine (get_123 2 2 0 112 _ _ b2 (by decide) (by decide) (by decide) (by decide)).mono ?_
  rintro e w3 ⟨rfl, hb3⟩
  have b3 := b2.below hb3 b2.lt
  have hB3 := hB2.trans (hb3.mono hB2.size)
  clear hb3 b2 hB2
  go_wp2_with fail
  refine (get_123 0 3 0 2 _ _ b3 (by decide) (by decide) (by decide) (by decide)).mono ?_
  rintro e w4 ⟨rfl, hb4⟩
  have b4 := b3.below hb4 b3.lt
  have hB4 := hB3.trans (hb4.mono hB3.size)
  clear hb4 b3 hB3
  go_wp2_with fail
  refine (set_any w.heap.size 3 3 [1, 2, 3] 1 1 511 _ b4 (by decide) (by decide) (by decide) (by decide) (by decide) (by decide)).mono ?_
  rintro e w5 ⟨rfl, b5, hg5⟩
  have hB5 := hB4.grown hg5 hB4.size (fun j e => by injection e with e; omega)
  rw [show setA [1, 2, 3] 3 1 1 511 = [1, 255, 3] by decide] at b5
  have he : errOf 3 1 1 = 0 := by decide
  rw [he]
  have B5 := Lib.hid b5
  clear b5 hg5 b4 hB4 he
  go_wp2_with fail
  have n5 := Bk.new w5 5 (u8s [1, 255, 3])
  refine (same_any (some ⟨w.heap.size, 0, none⟩) (some ⟨w5.heap.size, 0, none⟩) 3 3 [1, 255, 3] [1, 255, 3] _ ((B5.out.alloc _).rdAll (by have := B5.out.lt; simp; omega)) (n5.rdAll (by simp)) (by decide) (by decide)).mono ?_
  rintro e w6 ⟨rfl, k, rfl⟩
  clear n5
  go_wp2_with fail
  go_ret
  exact ⟨rfl, below_drewN (hB5.alloc hB5.size _) _⟩

set_option maxHeartbeats 400000 in
theorem gets_any (A : Option Addr) (c : Nat) (xs : List Int) (t s : Int) (w : World) (ha : Rd w w.heap.size A c (u8s xs)) (hx : Bytes xs) (hn : xs.length ≤ 1000000) (ht : -9223372036854775808 ≤ t) (ht2 : t ≤ 9223372036854775807) :
    Calls Try.prog 9 #[.slice A xs.length c, .int .i64 t, .int .i64 s] w fun e w' => e = .returned (.bool true) ∧ Below w.heap.size w w' := by
  have HR := Lib.hid ha
  clear ha
  go_enter Try.func9, Try.ntmps9
  go_wp2_with fail
  refine (get_any A c xs t s _ HR.out hx hn ht ht2).mono ?_
  rintro e w1 ⟨rfl, hb1⟩
  go_wp2_with fail
  refine (rget_any A c xs t s _ ((HR.out.below hb1).mono hb1.size) hx hn ht ht2).mono ?_
  rintro e w2 ⟨rfl, rfl⟩
  go_wp2_with fail
  go_ret
  exact ⟨rfl, hb1⟩

theorem own_rd {w : World} {base e g n cap : Nat} {xs : List Value} (h : w.ownsRow base e 1 (.slice (some ⟨g, 0, none⟩) n cap) n xs) : Rd w w.heap.size (some ⟨g, 0, none⟩) cap xs :=
  ⟨fun e => (by cases e), fun _ => ⟨_, rfl, (h.lt g rfl).2, h.cells rfl⟩⟩

set_option maxHeartbeats 400000 in
theorem sets_any (A : Option Addr) (c : Nat) (xs : List Int) (t s v : Int) (w : World) (ha : Rd w w.heap.size A c (u8s xs)) (hn : xs.length ≤ 900000) (ht : -9223372036854775808 ≤ t) (ht2 : t ≤ 9223372036854775807) (hv0 : 0 ≤ v) (hv2 : v ≤ 18446744073709551615) :
    Calls Try.prog 11 #[.slice A xs.length c, .int .i64 t, .int .i64 s, .int .u64 v] w fun e w' => e = .returned (.bool true) ∧ Below w.heap.size w w' := by
  have HR := Lib.hid ha
  clear ha
  go_enter Try.func11, Try.ntmps11
  go_wp2_with fail
  refine (lent_any A c xs _ HR.out (by omega)).mono ?_
  rintro e w1 ⟨rfl, b1, hb1⟩
  go_wp2_with fail
  refine (set_any w.heap.size xs.length (xs.length + 12) (xs ++ marks 12) t s v _ b1 (by omega) (by simp) ht ht2 hv0 hv2).mono ?_
  rintro e w2 ⟨rfl, b2, hg2⟩
  rw [setA_app] at b2
  have hb2 := hb1.grown hg2 hb1.size (fun j e => by injection e with e; omega)
  have B2 := Lib.hid b2
  clear b1 b2 hg2 hb1
  go_wp2_with fail
  refine (rset_any A c xs t s v _ ((HR.out.below hb2).mono hb2.size) (by omega) ht ht2 hv0 hv2).mono ?_
  rintro e w3 ⟨g, cap, rfl, hown, hb3⟩
  have B3 := Lib.hid (B2.out.below hb3 B2.out.lt)
  have hl : (setR xs t s v).length = xs.length := setR_len _ _ _ _
  have hk := kept_any w.heap.size xs.length (some ⟨g, 0, none⟩) cap (setR xs t s v ++ marks 12) (setR xs t s v) w3 B3.out (own_rd hown) (by simp) (by rw [hl]; omega) (by omega)
  rw [hl] at hk
  simp only [decide_true] at hk
  have HK := Lib.hid hk
  have hb4 := hb2.trans (hb3.mono hb2.size)
  clear hk hl hown hb3 hb2
  go_wp2_with fail
  refine HK.out.mono ?_
  rintro e w4 ⟨rfl, k, rfl⟩
  go_wp2_with fail
  go_ret
  exact ⟨rfl, below_drewN hb4 _⟩
end Go.Proofs.Ytjacbbefdmnmaaa
