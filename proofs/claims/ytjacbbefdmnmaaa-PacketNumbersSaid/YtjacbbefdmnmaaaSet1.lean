/- The program's Set (package packet), over this seat's program. -/
import Derived.Test.YtjacbbefdmnmaaaGet2
namespace Go.Proofs.Ytjacbbefdmnmaaa
open Go.RowKit Go.Shelf

attribute [local go_sem] Oper.semAt_some
set_option linter.unusedVariables false

/-- The byte of v that stands up bits up. -/
def byteAt (v up : Int) : Int := v / 2 ^ up.toNat % 256
/-- The bytes as they stand behind the rounds of pre. -/
def setF (xs : List Int) (p s : Nat) (v : Int) (pre : List (Fin s)) : List Int := pre.foldl (fun l i => l.set (p + i.1) (byteAt v (8 * ((s : Int) - 1 - (i.1 : Int))))) xs
theorem setF_snoc (xs : List Int) (p s : Nat) (v : Int) (pre : List (Fin s)) (i : Fin s) : setF xs p s v (pre ++ [i]) = (setF xs p s v pre).set (p + i.1) (byteAt v (8 * ((s : Int) - 1 - (i.1 : Int)))) := by simp [setF]
theorem setF_len (xs : List Int) (p s : Nat) (v : Int) (pre : List (Fin s)) : (setF xs p s v pre).length = xs.length := by
  unfold setF
  induction pre generalizing xs with
  | nil => rfl
  | cons i l ih => rw [List.foldl_cons, ih]; simp

set_option maxRecDepth 100000 in
set_option maxHeartbeats 2000000 in
theorem set1_0 (g0 g1 g2 g3 g n cap : Nat) (xs : List Int) (p s : Nat) (v : Int) (w : World)
    (b0 : Bk w g0 22 [.slice (some ⟨g, 0, none⟩) n cap]) (b1 : Bk w g1 2 [.int .i64 p]) (b2 : Bk w g2 3 [.int .i64 s]) (b3 : Bk w g3 27 [.int .u64 v]) (b : Bk w g 5 (u8s xs))
    (n0 : g0 ≠ g) (n3 : g3 ≠ g) (hn : n ≤ 1000000) (hnx : n ≤ xs.length) (hs : okSz s = true) (h1 : p + s ≤ n) (hv0 : 0 ≤ v) (hv2 : v ≤ 18446744073709551615) :
    Calls Try.prog 21 #[.pointer (some ⟨g0, 0, none⟩), .pointer (some ⟨g1, 0, none⟩), .pointer (some ⟨g2, 0, none⟩), .pointer (some ⟨g3, 0, none⟩)] w fun e w' =>
      e = .returned (.tuple #[]) ∧ Bk w' g 5 (u8s (setF xs p s v (List.finRange s))) ∧ w.grownBy w' (some g) := by
  have c0 : w.cell? ⟨g0, 0, none⟩ = some (.slice (some ⟨g, 0, none⟩) n cap) := by rw [b0.cell]; rfl
  have c1 : w.cell? ⟨g1, 0, none⟩ = some (.int .i64 p) := by rw [b1.cell]; rfl
  have c2 : w.cell? ⟨g2, 0, none⟩ = some (.int .i64 s) := by rw [b2.cell]; rfl
  have hs8 : s ≤ 8 := by have := place_size s hs; omega
  refine (callsIn_wide (n := 3)).1 ?_
  refine callsIn_of_wp_marks Try.func21 rfl trivial ?_ rfl
  simp only [Try.ntmps21, List.size_toArray, List.length_cons, List.length_nil, Nat.reduceAdd, Nat.reduceSub, Array.replicate_succ, Array.replicate_zero, List.push_toArray, List.append_toArray, List.nil_append, List.cons_append]
  gi_wp2_with (first
    | (refine ⟨trivial, ?_⟩; gi_at_call 22; refine (callsIn_wide.2 (check_0 _ n cap p s _ hn hs (by omega) (by omega))).mono ?_; rintro e w1 ⟨rfl, hb1⟩; have c1 : w1.cell? ⟨g1, 0, none⟩ = some (.int .i64 p) := by { rw [(b1.below hb1 b1.lt).cell]; rfl }; have c2 : w1.cell? ⟨g2, 0, none⟩ = some (.int .i64 s) := by { rw [(b2.below hb1 b2.lt).cell]; rfl })
    | (refine ⟨trivial, ?_⟩; gi_at_call 23; refine (places_in Fence.wide _ trivial rfl _ _ _).mono ?_; rintro e w2 ⟨rfl, rfl⟩))
  have hz := hb1.size
  have hg3 := b.lt
  have nb1 := Bk.new w1 2 [.int .i64 p]
  have nb2 := Bk.new (w1.alloc (.cells #[.int .i64 p] 2)) 3 [.int .i64 s]
  rw [World.size_alloc] at nb2
  have hB2 : Below w.heap.size w ((w1.alloc (.cells #[.int .i64 p] 2)).alloc (.cells #[.int .i64 s] 3)) := (hb1.alloc (by omega) _).alloc (by simp; omega) _
  refine wpIn_rangeFunc_ownF rfl (by omega) (gf := 29) (lb := #[.pointer (some ⟨w1.heap.size + 1, 0, none⟩), .pointer (some ⟨w1.heap.size, 0, none⟩)]) rfl trivial (enters_of Try.func29 (by kernel_rfl) rfl)
    (places_stops Fence.wide (3 - 1) trivial rfl (by omega) (w1.heap.size + 1) w1.heap.size p s hs8 (by omega) (by omega) _ nb2 (nb1.alloc _)) kp2_t (kp2_b (by simp) (by simp; omega)) (Below.refl _ _) (fun _ => rfl)
    (fun pre W => Bk W g 5 (u8s (setF xs p s v pre)) ∧ w.grownBy W (some g))
    (fun _ _ _ => False)
    (fun s A B row hs hg hr => ⟨hs.1.grown hg (fun e => by have := (hr g e.symm).1; simp at this; omega), gr_far hs.2 hg (fun j e => by have := (hr j e).1; simp at this; omega)⟩)
    (fun _ _ _ _ _ hs _ _ => hs)
    ⟨b.below hB2 b.lt, gr_below hB2 _⟩
    (fun x => { tmps := #[.pointer (some ⟨g0, 0, none⟩), .pointer (some ⟨g1, 0, none⟩), .pointer (some ⟨g2, 0, none⟩), .pointer (some ⟨g3, 0, none⟩), .int .i64 (p + (x.1 : Int)), .int .i64 (8 * ((s : Int) - 1 - (x.1 : Int))), .slice (some ⟨g, 0, none⟩) n cap, .int .i64 p, .int .i64 s, .tuple #[], .int .i64 p, .int .i64 s, .func (.func 29) #[] #[.pointer (some ⟨w1.heap.size + 1, 0, none⟩), .pointer (some ⟨w1.heap.size, 0, none⟩)], .int .i64 (p + (x.1 : Int)), .int .i64 (8 * ((s : Int) - 1 - (x.1 : Int))), undef, undef, undef, undef, undef, undef, undef], defers := [] }) ?assign ?body ?done ?stop
  case assign =>
    intro l x W K hK
    simp only [encP]
    gi_wp2
    exact hK
  case body =>
    rintro l pre ⟨x, hxs⟩ W ⟨hb3, hgr⟩ _
    have d0 : W.cell? ⟨g0, 0, none⟩ = some (.slice (some ⟨g, 0, none⟩) n cap) := by rw [(b0.grown hgr (by simp [n0])).cell]; rfl
    have d3 : W.cell? ⟨g3, 0, none⟩ = some (.int .u64 v) := by rw [(b3.grown hgr (by simp [n3])).cell]; rfl
    obtain ⟨y, da, _⟩ := hb3.u8 (k := p + x) (by rw [setF_len]; omega)
    have f3 : W.frozen? ⟨g, p + x, none⟩ = false := hb3.frozen _
    have HS := Lib.hid (setF_snoc xs p s v pre ⟨x, hxs⟩)
    have i1 : (0 : Int) ≤ (p : Int) + x := by omega
    have i2 : (p : Int) + x < n := by omega
    have i3 : ((p : Int) + x).toNat = p + x := by omega
    have i4 : 0 ≤ 8 * ((s : Int) - 1 - (x : Int)) := by omega
    have i5 : ¬ 8 * ((s : Int) - 1 - (x : Int)) < 0 := by omega
    clear h1 hn hs c0 b0 b1 b2
    gi_wp2
    refine round_still_tail l _ 7 (by kernel_rfl) (by kernel_rfl) (by kernel_rfl) (by rintro ⟨_, _, h⟩; exact h) ?_
    simp only [List.take_succ_cons, List.take_zero, List.drop_succ_cons, List.drop_zero]
    repeat still_step
    refine wpStill_nil ?_
    go_wp2
    have hv : byteAt v (8 * ((s : Int) - 1 - (x : Int))) = v / 2 ^ (8 * (s - 1 - x)) % 256 := by
      unfold byteAt; rw [show (8 * ((s : Int) - 1 - (x : Int))).toNat = 8 * (s - 1 - x) by omega]
    rw [← hv]
    exact ⟨(KeepsOthers.setCell _ _ _).trans (KeepsOthers.drew _), ⟨Below.heap_setCell _ _ _ _ (by simp; omega), Below.heap_setCell _ _ _ _ (by simp; omega)⟩, by rw [HS.out, u8s_set]; exact hb3.set _ _, gr_drew (gr_set hgr rfl _)⟩
  case done =>
    rintro D ys W hD rfl ⟨hb3, hgr⟩ hK
    gi_wp2
    have hDz : w1.heap.size + 1 + 1 ≤ D := by simpa using hD
    refine ⟨by simp, .inl ⟨_, _, rfl, run_takeDeferred hK, ?_⟩⟩
    have hg := grownBy_putObj' W D (.deferred none)
    exact ⟨_, results_none rfl _ _ _, rfl, hb3.grown hg (fun e => by injection e with e; omega), gr_far hgr hg (fun j e => by injection e with e; omega)⟩
  case stop =>
    rintro D c pre W _ _ h _
    exact h.elim

theorem setF_upto (xs : List Int) (p s : Nat) (v : Int) (h1 : p + s ≤ xs.length) : ∀ k, k ≤ s → ∀ j, (setF xs p s v (upto s k))[j]? = if p ≤ j ∧ j < p + k then some (v / 256 ^ (p + s - 1 - j) % 256) else xs[j]?
  | 0, _, j => by simp [setF, upto]; omega
  | k + 1, hk, j => by
    have ih := setF_upto xs p s v h1 k (by omega) j
    rw [upto_succ s (by omega), setF_snoc, List.getElem?_set, setF_len]
    by_cases h : p + k = j
    · subst h
      rw [if_pos rfl, if_pos (by omega), if_pos (by omega)]
      unfold byteAt
      rw [show (8 * ((s : Int) - 1 - (k : Int))).toNat = 8 * (s - 1 - k) by omega, show p + s - 1 - (p + k) = s - 1 - k by omega, Int.pow_mul]
      rfl
    · rw [if_neg h, ih]
      by_cases h2 : p ≤ j ∧ j < p + k
      · rw [if_pos h2, if_pos (by omega)]
      · rw [if_neg h2, if_neg (by omega)]
theorem setF_all (xs : List Int) (p s : Nat) (v : Int) (h1 : p + s ≤ xs.length) : setF xs p s v (List.finRange s) = setN xs p s v := by
  apply List.ext_getElem?
  intro j
  rw [← upto_all, setF_upto xs p s v h1 s (Nat.le_refl _), setN_at _ _ _ _ h1]

theorem set1_err (g0 g1 g2 g3 : Nat) (A : Option Addr) (c n : Nat) (t s : Int) (w : World)
    (b0 : Bk w g0 22 [.slice A n c]) (b1 : Bk w g1 2 [.int .i64 t]) (b2 : Bk w g2 3 [.int .i64 s]) (hn : n ≤ 1000000) (ht : -9223372036854775808 ≤ t) (ht2 : t ≤ 9223372036854775807) (he : errOf n t s ≠ 0) :
    Calls Try.prog 21 #[.pointer (some ⟨g0, 0, none⟩), .pointer (some ⟨g1, 0, none⟩), .pointer (some ⟨g2, 0, none⟩), .pointer (some ⟨g3, 0, none⟩)] w fun e w' =>
      e = thrown (errOf n t s) ∧ Below w.heap.size w w' := by
  have c0 : w.cell? ⟨g0, 0, none⟩ = some (.slice A n c) := by rw [b0.cell]; rfl
  have c1 : w.cell? ⟨g1, 0, none⟩ = some (.int .i64 t) := by rw [b1.cell]; rfl
  have c2 : w.cell? ⟨g2, 0, none⟩ = some (.int .i64 s) := by rw [b2.cell]; rfl
  have HE := Lib.hid he
  clear he b0 b1 b2
  go_enter Try.func21, Try.ntmps21
  go_wp2_with fail
  refine (check_err A n c t s _ hn ht ht2 HE.out).mono ?_
  rintro e w1 ⟨rfl, hb⟩
  exact ⟨rfl, rfl, hb⟩

/-- What the document tells of all cells of a block behind a Set of its first n. -/
def setA (xs : List Int) (n : Nat) (t s v : Int) : List Int := if errOf n t s = 0 then setN xs t.toNat s.toNat v else xs
theorem setA_len (xs : List Int) (n : Nat) (t s v : Int) : (setA xs n t s v).length = xs.length := by unfold setA; split <;> simp
theorem setA_app (xs ys : List Int) (t s v : Int) : setA (xs ++ ys) xs.length t s v = setR xs t s v ++ ys := by
  unfold setA setR
  rcases err_cases xs.length t s with ⟨hs, h0, h1, he⟩ | he
  · rw [if_pos he, if_pos he]
    obtain ⟨p, rfl⟩ := Int.eq_ofNat_of_zero_le h0
    obtain ⟨k, rfl⟩ : ∃ k : Nat, s = k := ⟨s.toNat, by have := place_size s hs; omega⟩
    simp only [Int.toNat_natCast]
    apply List.ext_getElem?
    intro j
    rw [setN_at _ _ _ _ (by simp; omega), List.getElem?_append, List.getElem?_append, setN_at _ _ _ _ (by omega), setN_len]
    by_cases h : p ≤ j ∧ j < p + k
    · rw [if_pos h, if_pos h, if_pos (by omega)]
    · rw [if_neg h, if_neg h]
  · rw [if_neg he, if_neg he]

theorem set_caught (g0 g1 g2 g3 g n cap : Nat) (xs : List Int) (t s v : Int) (W : World)
    (b0 : Bk W g0 22 [.slice (some ⟨g, 0, none⟩) n cap]) (b1 : Bk W g1 2 [.int .i64 t]) (b2 : Bk W g2 3 [.int .i64 s]) (b3 : Bk W g3 27 [.int .u64 v]) (b : Bk W g 5 (u8s xs)) (n0 : g0 ≠ g) (n3 : g3 ≠ g)
    (hn : n ≤ 1000000) (hnx : n ≤ xs.length) (ht : -9223372036854775808 ≤ t) (ht2 : t ≤ 9223372036854775807) (hv0 : 0 ≤ v) (hv2 : v ≤ 18446744073709551615) :
    Calls Try.prog 20 #[.func (.func 21) #[] #[.pointer (some ⟨g0, 0, none⟩), .pointer (some ⟨g1, 0, none⟩), .pointer (some ⟨g2, 0, none⟩), .pointer (some ⟨g3, 0, none⟩)]] W fun e w' =>
      e = .returned (.int .i64 (errOf n t s)) ∧ Bk w' g 5 (u8s (setA xs n t s v)) ∧ W.grownBy w' (some g) := by
  have hent := enters_of Try.func21 (by kernel_rfl) rfl
  have hgl := b.lt
  rcases err_cases n t s with ⟨hs, h0, h1, he⟩ | he
  · obtain ⟨p, rfl⟩ := Int.eq_ofNat_of_zero_le h0
    obtain ⟨k, rfl⟩ : ∃ k : Nat, s = k := ⟨s.toNat, by have := place_size s hs; omega⟩
    have hG : setA xs n p k v = setN xs p k v := by unfold setA; rw [if_pos he]; simp
    refine (caught_ret 21 _ W (fun w' => Bk w' g 5 (u8s (setN xs p k v)) ∧ W.grownBy w' (some g)) hent ?_).mono ?_
    · refine (set1_0 g0 g1 g2 g3 g n cap xs p k v _ (b0.alloc _) (b1.alloc _) (b2.alloc _) (b3.alloc _) (b.alloc _) n0 n3 hn hnx hs (by omega) hv0 hv2).mono ?_
      rintro e w' ⟨rfl, hb3, hgr⟩
      rw [setF_all xs p k v (by omega)] at hb3
      exact ⟨rfl, ⟨hb3, gr_trans (World.grownBy_alloc W _ _) hgr⟩, (Bk.new W 32 [.int .i64 0]).grown hgr (fun e => by injection e with e; omega)⟩
    · rintro e w' ⟨rfl, w1, ⟨hb3, hbl⟩, rfl⟩
      rw [he, hG]
      exact ⟨rfl, hb3.far (by simp; omega) _, gr_far hbl (gr_set (World.grownBy.refl _ (some W.heap.size)) rfl _) (fun j e => by injection e with e; omega)⟩
  · have hG : setA xs n t s v = xs := by unfold setA; rw [if_neg he]
    refine (caught_throw 21 _ (errOf n t s) W (fun w' => Below W.heap.size W w') hent ?_).mono ?_
    · refine (set1_err g0 g1 g2 g3 _ cap n t s _ (b0.alloc _) (b1.alloc _) (b2.alloc _) hn ht ht2 he).mono ?_
      rintro e w' ⟨rfl, hb⟩
      exact ⟨rfl, ((Below.refl _ _).alloc (Nat.le_refl _) _).trans (hb.mono (by simp)), (Bk.new W 32 [.int .i64 0]).below hb (by simp)⟩
    · rintro e w' ⟨rfl, w1, hbl, rfl⟩
      rw [hG]
      exact ⟨rfl, (b.below hbl b.lt).far (by simp; omega) _, gr_below (hbl.setCell (by simp) _) _⟩

set_option maxHeartbeats 400000 in
theorem set_any (g n cap : Nat) (xs : List Int) (t s v : Int) (w : World) (b : Bk w g 5 (u8s xs)) (hn : n ≤ 1000000) (hnx : n ≤ xs.length) (ht : -9223372036854775808 ≤ t) (ht2 : t ≤ 9223372036854775807) (hv0 : 0 ≤ v) (hv2 : v ≤ 18446744073709551615) :
    Calls Try.prog 13 #[.slice (some ⟨g, 0, none⟩) n cap, .int .i64 t, .int .i64 s, .int .u64 v] w fun e w' => e = .returned (.int .i64 (errOf n t s)) ∧ Bk w' g 5 (u8s (setA xs n t s v)) ∧ w.grownBy w' (some g) := by
  have hmf : ∀ (fn : Fn) (first cap : Array Value) (w : World), (Instr.makeFunc fn first cap).run Try.prog w = .ok (.func fn first cap) w := fun _ _ _ _ => rfl
  have hgl := b.lt
  go_enter Try.func13, Try.ntmps13
  go_wp2_with fail
  have b0 := Bk.new w 22 [.slice (some ⟨g, 0, none⟩) n cap]
  have b1 := Bk.new (w.alloc (.cells #[.slice (some ⟨g, 0, none⟩) n cap] 22)) 2 [.int .i64 t]
  have b2 := Bk.new ((w.alloc (.cells #[.slice (some ⟨g, 0, none⟩) n cap] 22)).alloc (.cells #[.int .i64 t] 2)) 3 [.int .i64 s]
  have b3 := Bk.new (((w.alloc (.cells #[.slice (some ⟨g, 0, none⟩) n cap] 22)).alloc (.cells #[.int .i64 t] 2)).alloc (.cells #[.int .i64 s] 3)) 27 [.int .u64 v]
  simp only [World.size_alloc] at b0 b1 b2 b3
  have hb4 : Below w.heap.size w ((((w.alloc (.cells #[.slice (some ⟨g, 0, none⟩) n cap] 22)).alloc (.cells #[.int .i64 t] 2)).alloc (.cells #[.int .i64 s] 3)).alloc (.cells #[.int .u64 v] 27)) := (((((Below.refl _ _).alloc (Nat.le_refl _) _).alloc (by simp) _).alloc (by simp; omega) _).alloc (by simp; omega) _)
  refine (set_caught w.heap.size (w.heap.size + 1) (w.heap.size + 1 + 1) (w.heap.size + 1 + 1 + 1) g n cap xs t s v _ 
    (((b0.alloc _).alloc _).alloc _) ((b1.alloc _).alloc _) (b2.alloc _) b3 ((((b.alloc _).alloc _).alloc _).alloc _) (by omega) (by omega) hn hnx ht ht2 hv0 hv2).mono ?_
  rintro e w1 ⟨rfl, hb3, hgr⟩
  have hgr' := gr_trans (gr_below hb4 (some g)) hgr
  clear b0 b1 b2 b3 hb4 hgr
  go_wp2
  go_ret
  exact ⟨rfl, hb3, hgr'⟩
end Go.Proofs.Ytjacbbefdmnmaaa
