/- text: LentIns, KeptIns. Marks of lists; a row that is a block. Append onto a row that is as long as its capacity: where the result lies. No program. Lists that are marked and grown, each in a block of its own: no program. The phases of marking and growing lists: no program. -/
import Derived.Laws.AppendOwnNone
import Derived.WalkLawsBesides
import Derived.Deep.Slices
import Derived.Deep.RegionHeld3
import Derived.OwnWalk
import Derived.Test.YtjebjninlejoeaaGreatDoorRow
import Derived.Test.YtjebjninlejoeaaGreatDoorZK
namespace Go.Proofs.YtjebjninlejoeaaGreatDoor
open Go.RowKit Go.Maps Go.ChangeMaps
set_option linter.unusedVariables false
set_option linter.unusedSimpArgs false
set_option linter.unusedSectionVars false
set_option maxRecDepth 100000

def markV (t : Int) : IV := { iv0 0 with off := t }
def marksV (k : Nat) : List IV := (List.range k).map fun (i : Nat) => markV (8000024 + (i : Int))
@[simp] theorem marksV_len (k : Nat) : (marksV k).length = k := by simp [marksV]
theorem marksV_succ (k : Nat) : marksV (k + 1) = marksV k ++ [markV (8000024 + (k : Int))] := by simp [marksV, List.range_succ]
theorem outC_app (a b : List IV) : outC (a ++ b) = outC a ++ outC b := by simp [outC]
theorem outC_one1 (i : IV) : outC [i] = ivV i := by simp [outC]
theorem ivV_one (x : IV) : ∀ u ∈ ivV x, u.oneCell' = true := by
  intro u hu
  simp [ivV] at hu
  rcases hu with rfl | rfl | rfl | rfl | rfl | rfl | rfl | rfl <;> rfl
theorem outC_ones (xs : List IV) : ∀ u ∈ outC xs, u.oneCell' = true := by
  intro u hu
  simp only [outC, List.mem_flatMap] at hu
  obtain ⟨x, _, hx⟩ := hu
  exact ivV_one x u hx
theorem ins_blk (a : Addr) (j : Nat) : (a.add j).block = a.block := by unfold Addr.add; split <;> rfl
theorem add_mk (g o j : Nat) : Addr.add ⟨g, o, none⟩ j = ⟨g, o + j, none⟩ := by
  unfold Addr.add
  split <;> simp_all
theorem Ivs.cells {w : World} {K : Nat → Prop} {A : Option Addr} {c : Nat} {xs : List IV} (h : Ivs w K A c xs) : ∀ ad, A = some ad → ∀ j u, (outC xs)[j]? = some u → w.cell? (ad.add j) = some u := by
  intro ad e j u hu
  have hl := (List.getElem?_eq_some_iff.1 hu).1
  rw [outC_len] at hl
  obtain ⟨g, o, e', _, hc⟩ := h.2 (by intro e; subst e; simp at hl)
  rw [e] at e'; injection e' with e'; subst e'
  have hi : j / 8 < xs.length := by omega
  have hx := List.getElem?_eq_getElem hi
  have h2 := flat_at (f := ivV) (c := 8) (fun _ => rfl) xs (j / 8) _ (j % 8) hx (by omega)
  rw [show j / 8 * 8 + j % 8 = j by omega] at h2
  have hu2 : (xs.flatMap ivV)[j]? = some u := hu
  rw [hu2] at h2
  have h1 := hc (j / 8) _ hx (j % 8) u h2.symm
  rw [add_mk, ← h1]
  congr 2
  omega
theorem own_all8 {w : World} {base e g n cap : Nat} {xs : List Value} (h : w.ownsRow base e 8 (.slice (some ⟨g, 0, none⟩) n cap) n xs) (hc : cap ≤ n) : Bk w g e xs := by
  rcases h.2 with ⟨h', _⟩ | ⟨g', cap', cur, h', _, hg, hnc, hcm, hcs, htake⟩
  · simp at h'
  · simp only [Value.slice.injEq, Option.some.injEq, Addr.mk.injEq, and_true, true_and] at h'
    obtain ⟨rfl, rfl⟩ := h'
    unfold Bk
    rw [hg, ← htake, List.take_of_length_le (by simp; omega)]
theorem mark_num (k i : Int) (w : World) (h0 : 0 ≤ k) (h1 : k ≤ 1000000000) (h2 : 0 ≤ i) (h3 : i ≤ 1000000000000000) :
    Calls Tryz.prog 97 #[.int .i64 k, .int .i64 i] w fun e w' => e = .returned (.int .i64 (1000003 * (k + 7) + i)) ∧ w = w' := by
  go_enter Tryz.func97, Tryz.ntmps97
  go_wp2_with fail
  go_ret
  exact ⟨rfl, rfl⟩
theorem insInfo : ∃ i0 : TypeInfo, Tryz.prog.info? 40 = some i0 ∧ i0.zero = some (.agg #[.int .u8 0, .bool false, .int .i64 0, .int .i64 0, .bool false, .int .i64 0, .int .i64 0, .int .i64 0]) ∧ i0.size = 8 ∧ i0.bytes = 56 := ⟨_, rfl, rfl, rfl, rfl⟩
theorem markIns_any (k i : Int) (w : World) (h0 : 0 ≤ k) (h1 : k ≤ 1000000000) (h2 : 0 ≤ i) (h3 : i ≤ 1000000000000000) :
    Calls Tryz.prog 32 #[.int .i64 k, .int .i64 i] w fun e w' => e = .returned (.agg (ivV (markV (1000003 * (k + 7) + i))).toArray) ∧ Below w.heap.size w w' := by
  have hb := Bk.new w 40 [.int .u8 0, .bool false, .int .i64 0, .int .i64 0, .bool false, .int .i64 0, .int .i64 0, .int .i64 0]
  have hbl := Lib.hid ((Below.refl _ w).alloc (Nat.le_refl _) (.cells #[.int .u8 0, .bool false, .int .i64 0, .int .i64 0, .bool false, .int .i64 0, .int .i64 0, .int .i64 0] 40))
  go_enter Tryz.func32, Tryz.ntmps32
  go_wp2_with fail
  (with_reducible refine (mark_num _ _ _ (by omega) (by omega) (by omega) (by omega)).mono ?_)
  rintro _ _ ⟨rfl, rfl⟩
  go_wp2_with fail
  exact bodyPost_ret (v := .agg (ivV (markV (1000003 * (k + 7) + i))).toArray) (by simp [results, Tryz.results32, go_sem, ivV, markV, iv0]) rfl ⟨rfl, by repeat' first | exact hbl.out | (refine Below.setCell ?_ (Nat.le_refl _) _) | exact (Below.refl _ w).alloc (Nat.le_refl _) _⟩
set_option maxHeartbeats 1000000 in
theorem lentIns_any {K : Nat → Prop} (A : Option Addr) (c : Nat) (xs : List IV) (w : World) (ha : Ivs w K A c xs) (hcz : A = none → c = 0) (hn : xs.length ≤ 1000000) :
    Calls Tryz.prog 12 #[.slice A xs.length c] w fun e w' => e = .returned (.slice (some ⟨w.heap.size, 0, none⟩) xs.length (xs.length + 12)) ∧
      Bk w' w.heap.size 40 (outC (xs ++ marksV 12)) ∧ Below w.heap.size w w' := by
  obtain ⟨i0, hi, hz0, hz1, hz2⟩ := insInfo
  have HNN := Lib.hid (show A = none → xs.length = 0 ∧ c = 0 from fun e => by
    refine ⟨?_, hcz e⟩
    rcases Nat.eq_zero_or_pos xs.length with h0 | h0
    · exact h0
    · obtain ⟨g, o, e', _⟩ := ha.2 (by intro q; rw [q] at h0; simp at h0)
      rw [e] at e'
      cases e')
  have HA := Lib.hid (fun (W : World) (hb : Below w.heap.size w W) => (ha.below hb).cells)
  have hxc : xs.length ≤ c := ha.1
  clear ha hcz
  go_enter Tryz.func12, Tryz.ntmps12
  go_wp2_with (first
   | (at_make; refine wpList_make_own _ rfl _ _ 23 rfl w.heap.size 40 i0 _ 8 Tryz.underlying23 hi hz0 hz1 _ _ _ (xs.length + 12) rfl rfl (by omega) (by rw [hz2]; omega) (by unfold maxLen; omega) (by omega) ?_; intro w1 hown1 hgrow1; have hb1 := (Below.refl w.heap.size w).grown hgrow1 (Nat.le_refl _) (by simp))
   | (at_builtin; go_loud (refine wpList_append_fits_any _ rfl (.tmp 9) (.tmp 10) 23 rfl w.heap.size 40 i0 8 Tryz.underlying23 hi hz1 w.heap.size 0 (xs.length + 12) [] rfl hown1 A xs.length c (outC xs) rfl (by rw [outC_len]) HNN.out (HA.out _ hb1) (outC_ones _) (by omega) ?_); intro w2 hown2 hgrow2))
  clear hgrow1 hown1
  have hb2 := hb1.grown hgrow2 hb1.size (by intro k e; injection e with e; omega)
  simp only [Nat.zero_add, List.nil_append] at hown2
  clear hgrow2
  go_loopw [3, 4] (fun v i wr => ∃ k : Nat, k ≤ 12 ∧ i = .int .i64 k ∧ v = .slice (some ⟨w.heap.size, 0, none⟩) (xs.length + k) (xs.length + 12) ∧ wr.ownsRow w.heap.size 40 8 (.slice (some ⟨w.heap.size, 0, none⟩) (xs.length + k) (xs.length + 12)) (xs.length + k) (outC (xs ++ marksV k)) ∧ Below w.heap.size w wr) (fun _ i _ => 12 - (intOf i).toNat)
  case atStart => exact ⟨0, Nat.zero_le _, rfl, rfl, by simpa [marksV] using hown2, hb2⟩
  case round =>
    clear hb2 hb1 hown2
    obtain ⟨k, hk, rfl, rfl, hown, hb⟩ := hrel
    by_cases hlt : k < 12
    · have hcon := fun W => markIns_any 1 k W (by omega) (by omega) (by omega) (by omega)
      simp only [ivV, markV, iv0] at hcon
      have HC := Lib.hid hcon
      clear hcon
      go_wp2_with fail
      refine (HC.out _).mono ?_
      rintro _ w2 ⟨rfl, hb2⟩
      have hgl : w.heap.size < wr.heap.size := (hown.lt _ rfl).2
      have hsz := hb2.size
      have hown2 : ∀ o, (w2.alloc o).ownsRow w.heap.size 40 8 (.slice (some ⟨w.heap.size, 0, none⟩) (xs.length + k) (xs.length + 12)) (xs.length + k) (outC (xs ++ marksV k)) := fun o => own_keep hown (fun g e => by injection e with e; subst e; exact (Below.heap_alloc w2 o _ (by show w.heap.size < _; omega)).trans (hb2.block _ hgl))
      go_wp2_with (at_builtin; refine wpList_append_fits _ rfl (.tmp 16) (.tmp 19) 23 rfl w.heap.size 40 i0 8 Tryz.underlying23 hi hz1 w.heap.size (xs.length + k) (xs.length + 12) (outC (xs ++ marksV k)) rfl (hown2 _) ⟨w2.heap.size, 0, none⟩ 1 1 (ivV (markV (8000024 + (k : Int)))) rfl rfl (news_new w2 (ivV (markV (8000024 + (k : Int)))) 40) (ivV_one _) (by omega) ?_)
      intro w3 hown3 hgrow3
      have hb3 := ((hb.trans (hb2.mono hb.size)).alloc (by omega) _).grown hgrow3 (by simp; omega) (by intro k e; injection e with e; omega)
      have HO3 : Hid (w3.ownsRow w.heap.size 40 8 (.slice (some ⟨w.heap.size, 0, none⟩) (xs.length + (k + 1)) (xs.length + 12)) (xs.length + (k + 1)) (outC (xs ++ marksV (k + 1)))) := Lib.hid (by rw [marksV_succ, ← List.append_assoc, outC_app, outC_one1]; exact hown3)
      have HB3 := Lib.hid hb3
      clear hown3 hgrow3 hb3 hown2 hb2 hown hb
      go_wp2
      go_roundw
      case rel => exact ⟨k + 1, by omega, by go_num, rfl, HO3.out, HB3.out⟩
      case measure => simp [intOf]; omega
    · obtain rfl : k = 12 := by omega
      go_wp2
      go_ret
      exact ⟨rfl, own_all8 hown (by omega), hb⟩
theorem ivE_same (x : IV) : decide (x = x) = true := decide_eq_true rfl
theorem out_at {w : World} {g : Nat} {l : List IV} (h : Bk w g 40 (outC l)) {k : Nat} {x : IV} (hx : l[k]? = some x) {m : Nat} (hm : m < 8) : w.cell? ⟨g, k * 8 + m, none⟩ = (ivV x)[m]? := by
  rw [h.cell]
  exact flat_at (f := ivV) (c := 8) (fun _ => rfl) l k x m hx hm
attribute [local go_sem high] eql_iv in
set_option maxHeartbeats 2000000 in
theorem keptIns_true {K : Nat → Prop} (g : Nat) (B : Option Addr) (d : Nat) (ys : List IV) (w : World) (ho : Bk w g 40 (outC (ys ++ marksV 12))) (hb : Ivs w K B d ys) (hm : ys.length ≤ 1000000) :
    Calls Tryz.prog 15 #[.slice (some ⟨g, 0, none⟩) ys.length (ys.length + 12), .slice B ys.length d] w fun e w' => e = .returned (.bool true) ∧ Below w.heap.size w w' := by
  have HO := Lib.hid ho
  have HB := Lib.hid hb
  clear ho hb
  go_enter Tryz.func15, Tryz.ntmps15
  go_wp2_with fail
  go_loopw [6] (fun i wr => ∃ k : Nat, k ≤ ys.length + 12 ∧ i = .int .i64 k ∧ Hid (Below w.heap.size w wr)) (fun i _ => ys.length + 12 - (intOf i).toNat)
  case atStart => exact ⟨0, Nat.zero_le _, rfl, Lib.hid (Below.refl _ _)⟩
  case round =>
    obtain ⟨k, hk, rfl, HBR⟩ := hrel
    by_cases hlt : k < ys.length + 12
    · have hgb := HO.out.below HBR.out HO.out.lt
      have hx : ∃ x, Hid ((ys ++ marksV 12)[k]? = some x) := ⟨_, List.getElem?_eq_getElem (by simp; omega)⟩
      obtain ⟨x, hx⟩ := hx
      have e0 := out_at hgb hx.out (m := 0) (by omega)
      have e1 := out_at hgb hx.out (m := 1) (by omega)
      have e2 := out_at hgb hx.out (m := 2) (by omega)
      have e3 := out_at hgb hx.out (m := 3) (by omega)
      have e4 := out_at hgb hx.out (m := 4) (by omega)
      have e5 := out_at hgb hx.out (m := 5) (by omega)
      have e6 := out_at hgb hx.out (m := 6) (by omega)
      have e7 := out_at hgb hx.out (m := 7) (by omega)
      obtain ⟨x0, x1, x2, x3, x4, x5, x6, x7⟩ := x
      simp only [ivV, List.getElem?_cons_zero, List.getElem?_cons_succ, Nat.add_zero] at e0 e1 e2 e3 e4 e5 e6 e7
      have hgl : g < wr.heap.size := hgb.lt
      have i1 : (0 : Int) ≤ (k : Int) := by omega
      have i2 : (k : Int) < (ys.length : Int) + 12 := by omega
      have q := ivE_same ⟨x0, x1, x2, x3, x4, x5, x6, x7⟩
      clear hgb
      by_cases hl : k < ys.length
      · obtain ⟨g', o', rfl, f0, f1, f2, f3, f4, f5, f6, f7⟩ := (HB.out.below HBR.out).at_ (show ys[k]? = some ⟨x0, x1, x2, x3, x4, x5, x6, x7⟩ by have := hx.out; rwa [List.getElem?_append_left hl] at this)
        have d1 : decide ((k : Int) < (ys.length : Int)) = true := decide_eq_true (by omega)
        have d2 : decide ((ys.length : Int) ≤ (k : Int)) = false := decide_eq_false (by omega)
        have d3 : decide (k < ys.length) = true := decide_eq_true hl
        have d4 : decide (ys.length ≤ k) = false := decide_eq_false (by omega)
        have i3 : (k : Int) < (ys.length : Int) := by omega
        simp only at f0 f1 f2 f3 f4 f5 f6 f7
        go_wp2_with fail
        go_quiet (fail)
        go_wp2_with fail
        go_roundw
        case rel => exact ⟨k + 1, by omega, by go_num, Lib.hid (HBR.out.trans ⟨rfl, rfl, rfl, Nat.le_refl _, fun _ _ => rfl⟩)⟩
        case measure => simp [intOf]; omega
      · have d1 : decide ((k : Int) < (ys.length : Int)) = false := decide_eq_false (by omega)
        have d2 : decide ((ys.length : Int) ≤ (k : Int)) = true := decide_eq_true (by omega)
        have d3 : decide (k < ys.length) = false := decide_eq_false hl
        have d4 : decide (ys.length ≤ k) = true := decide_eq_true (by omega)
        have hxm : (⟨x0, x1, x2, x3, x4, x5, x6, x7⟩ : IV) = markV (8000024 + ((k : Int) - ys.length)) := by
          have h1 := hx.out
          rw [List.getElem?_append_right (by omega)] at h1
          simp [marksV, show k - ys.length < 12 by omega, show (((k - ys.length : Nat) : Int)) = (k : Int) - ys.length by omega] at h1
          exact h1.symm
        have hcon := fun W => markIns_any 1 ((k : Int) - ys.length) W (by omega) (by omega) (by omega) (by omega)
        simp only [show (1000003 * ((1 : Int) + 7) + ((k : Int) - ys.length)) = 8000024 + ((k : Int) - ys.length) by omega] at hcon
        rw [← hxm] at hcon
        simp only [ivV] at hcon
        have HC := Lib.hid hcon
        have HX := Lib.hid hxm
        have i4 : IntKind.i64.wrap ((k : Int) - ys.length) = (k : Int) - ys.length := IntWalk.i64_in _ (by omega)
        clear hcon hxm
        go_wp2_with fail
        refine wp_region_held_drew (S := fun w' => w'.cell? ⟨g, k * 8, none⟩ = some (.int .u8 x0) ∧ w'.cell? ⟨g, k * 8 + 1, none⟩ = some (.bool x1) ∧ w'.cell? ⟨g, k * 8 + 2, none⟩ = some (.int .i64 x2) ∧ w'.cell? ⟨g, k * 8 + 3, none⟩ = some (.int .i64 x3) ∧ w'.cell? ⟨g, k * 8 + 4, none⟩ = some (.bool x4) ∧ w'.cell? ⟨g, k * 8 + 5, none⟩ = some (.int .i64 x5) ∧ w'.cell? ⟨g, k * 8 + 6, none⟩ = some (.int .i64 x6) ∧ w'.cell? ⟨g, k * 8 + 7, none⟩ = some (.int .i64 x7)) (by kernel_rfl) ⟨e0, e1, e2, e3, e4, e5, e6, e7⟩ (fun hS => ?_)
        refine wpAnyH_take (i := 0) (v := ?_) rfl (by kernel_rfl) (by kernel_rfl) (by kernel_rfl) (fun _ _ _ h => h) (Or.inl ⟨by rfl, ?_⟩) hS ?_
        rotate_left 1
        · intro w' hSw
          go_simp <;> with_reducible rfl
        try simp only [List.getElem_toArray, List.getElem_cons_zero, List.getElem_cons_succ, Act.put, List.setIfInBounds_toArray, List.set_cons_zero, List.set_cons_succ]
        refine wpAnyH_take (i := 1) (v := ?_) rfl (by kernel_rfl) (by kernel_rfl) (by kernel_rfl) (fun _ _ _ h => h) (Or.inl ⟨by rfl, ?_⟩) hS ?_
        rotate_left 1
        · intro w' hSw
          go_simp <;> with_reducible rfl
        try simp only [List.getElem_toArray, List.getElem_cons_zero, List.getElem_cons_succ, Act.put, List.setIfInBounds_toArray, List.set_cons_zero, List.set_cons_succ]
        refine wpAnyH_take (i := 2) (v := ?_) rfl (by kernel_rfl) (by kernel_rfl) (by kernel_rfl) (fun _ _ _ h => h) (Or.inl ⟨by rfl, ?_⟩) hS ?_
        rotate_left 1
        · intro w' hSw
          go_simp <;> with_reducible rfl
        try simp only [List.getElem_toArray, List.getElem_cons_zero, List.getElem_cons_succ, Act.put, List.setIfInBounds_toArray, List.set_cons_zero, List.set_cons_succ]
        refine wpAnyH_take (i := 3) (v := ?_) rfl (by kernel_rfl) (by kernel_rfl) (by kernel_rfl) (fun _ _ _ h => h) (Or.inl ⟨by rfl, ?_⟩) hS ?_
        rotate_left 1
        · intro w' hSw
          go_simp <;> with_reducible rfl
        try simp only [List.getElem_toArray, List.getElem_cons_zero, List.getElem_cons_succ, Act.put, List.setIfInBounds_toArray, List.set_cons_zero, List.set_cons_succ]
        refine wpAnyH_take (i := 4) (v := ?_) rfl (by kernel_rfl) (by kernel_rfl) (by kernel_rfl) (fun _ _ _ h => h) (Or.inl ⟨by rfl, ?_⟩) hS ?_
        rotate_left 1
        · intro w' hSw
          go_simp <;> with_reducible rfl
        try simp only [List.getElem_toArray, List.getElem_cons_zero, List.getElem_cons_succ, Act.put, List.setIfInBounds_toArray, List.set_cons_zero, List.set_cons_succ]
        refine wpAnyH_take (i := 5) (v := undef) rfl (by kernel_rfl) (by kernel_rfl) (by kernel_rfl) (fun _ _ _ h => h) (Or.inr ⟨by go_simp, rfl⟩) hS ?_
        try simp only [List.getElem_toArray, List.getElem_cons_zero, List.getElem_cons_succ, Act.put, List.setIfInBounds_toArray, List.set_cons_zero, List.set_cons_succ]
        refine wpAnyH_take (i := 6) (v := undef) rfl (by kernel_rfl) (by kernel_rfl) (by kernel_rfl) (fun _ _ _ h => h) (Or.inr ⟨by go_simp, rfl⟩) hS ?_
        try simp only [List.getElem_toArray, List.getElem_cons_zero, List.getElem_cons_succ, Act.put, List.setIfInBounds_toArray, List.set_cons_zero, List.set_cons_succ]
        refine wpAnyH_take (i := 7) (v := undef) rfl (by kernel_rfl) (by kernel_rfl) (by kernel_rfl) (fun _ _ _ h => h) (Or.inr ⟨by go_simp, rfl⟩) hS ?_
        try simp only [List.getElem_toArray, List.getElem_cons_zero, List.getElem_cons_succ, Act.put, List.setIfInBounds_toArray, List.set_cons_zero, List.set_cons_succ]
        refine wpAnyH_take (i := 8) (v := undef) rfl (by kernel_rfl) (by kernel_rfl) (by kernel_rfl) (fun _ _ _ h => h) (Or.inr ⟨by go_simp, rfl⟩) hS ?_
        try simp only [List.getElem_toArray, List.getElem_cons_zero, List.getElem_cons_succ, Act.put, List.setIfInBounds_toArray, List.set_cons_zero, List.set_cons_succ]
        refine wpAnyH_take (i := 9) (v := undef) rfl (by kernel_rfl) (by kernel_rfl) (by kernel_rfl) (fun _ _ _ h => h) (Or.inr ⟨by go_simp, rfl⟩) hS ?_
        try simp only [List.getElem_toArray, List.getElem_cons_zero, List.getElem_cons_succ, Act.put, List.setIfInBounds_toArray, List.set_cons_zero, List.set_cons_succ]
        refine wpAnyH_take (i := 10) (v := undef) rfl (by kernel_rfl) (by kernel_rfl) (by kernel_rfl) (fun _ _ _ h => h) (Or.inr ⟨by go_simp, rfl⟩) hS ?_
        try simp only [List.getElem_toArray, List.getElem_cons_zero, List.getElem_cons_succ, Act.put, List.setIfInBounds_toArray, List.set_cons_zero, List.set_cons_succ]
        refine wpAnyH_take (i := 11) (v := undef) rfl (by kernel_rfl) (by kernel_rfl) (by kernel_rfl) (fun _ _ _ h => h) (Or.inr ⟨by go_simp, rfl⟩) hS ?_
        try simp only [List.getElem_toArray, List.getElem_cons_zero, List.getElem_cons_succ, Act.put, List.setIfInBounds_toArray, List.set_cons_zero, List.set_cons_succ]
        refine wpAnyH_take (i := 12) (v := undef) rfl (by kernel_rfl) (by kernel_rfl) (by kernel_rfl) (fun _ _ _ h => h) (Or.inr ⟨by go_simp, rfl⟩) hS ?_
        try simp only [List.getElem_toArray, List.getElem_cons_zero, List.getElem_cons_succ, Act.put, List.setIfInBounds_toArray, List.set_cons_zero, List.set_cons_succ]
        refine wpAnyH_take (i := 13) (v := undef) rfl (by kernel_rfl) (by kernel_rfl) (by kernel_rfl) (fun _ _ _ h => h) (Or.inr ⟨by go_simp, rfl⟩) hS ?_
        try simp only [List.getElem_toArray, List.getElem_cons_zero, List.getElem_cons_succ, Act.put, List.setIfInBounds_toArray, List.set_cons_zero, List.set_cons_succ]
        refine wpAnyH_take (i := 14) (v := undef) rfl (by kernel_rfl) (by kernel_rfl) (by kernel_rfl) (fun _ _ _ h => h) (Or.inr ⟨by go_simp, rfl⟩) hS ?_
        try simp only [List.getElem_toArray, List.getElem_cons_zero, List.getElem_cons_succ, Act.put, List.setIfInBounds_toArray, List.set_cons_zero, List.set_cons_succ]
        refine wpAnyH_take (i := 15) (v := ?_) rfl (by kernel_rfl) (by kernel_rfl) (by kernel_rfl) (fun _ _ _ h => h) (Or.inl ⟨by rfl, ?_⟩) hS ?_
        rotate_left 1
        · intro w' hSw
          go_simp <;> with_reducible rfl
        try simp only [List.getElem_toArray, List.getElem_cons_zero, List.getElem_cons_succ, Act.put, List.setIfInBounds_toArray, List.set_cons_zero, List.set_cons_succ]
        refine wpAnyH_take (i := 16) (v := ?_) rfl (by kernel_rfl) (by kernel_rfl) (by kernel_rfl) (fun _ _ _ h => h) (Or.inl ⟨by rfl, ?_⟩) hS ?_
        rotate_left 1
        · intro w' hSw
          go_simp <;> with_reducible rfl
        try simp only [List.getElem_toArray, List.getElem_cons_zero, List.getElem_cons_succ, Act.put, List.setIfInBounds_toArray, List.set_cons_zero, List.set_cons_succ]
        refine wpAnyH_take (i := 17) (v := ?_) rfl (by kernel_rfl) (by kernel_rfl) (by kernel_rfl) (fun _ _ _ h => h) (Or.inl ⟨by go_simp, ?_⟩) hS ?_
        rotate_left 1
        · intro w' hSw
          go_simp <;> with_reducible rfl
        try simp only [List.getElem_toArray, List.getElem_cons_zero, List.getElem_cons_succ, Act.put, List.setIfInBounds_toArray, List.set_cons_zero, List.set_cons_succ]
        refine wpAnyH_take (i := 18) (v := ?_) rfl (by kernel_rfl) (by kernel_rfl) (by kernel_rfl) (fun _ _ _ h => h) (Or.inl ⟨by go_simp, ?_⟩) hS ?_
        rotate_left 1
        · intro w' hSw
          go_simp <;> with_reducible rfl
        try simp only [List.getElem_toArray, List.getElem_cons_zero, List.getElem_cons_succ, Act.put, List.setIfInBounds_toArray, List.set_cons_zero, List.set_cons_succ]
        refine wpAnyH_take (i := 19) (v := ?_) rfl (by kernel_rfl) (by kernel_rfl) (by kernel_rfl) (fun _ _ _ h => h) (Or.inl ⟨by go_simp, ?_⟩) hS ?_
        rotate_left 1
        · intro w' hSw
          go_simp <;> with_reducible rfl
        try simp only [List.getElem_toArray, List.getElem_cons_zero, List.getElem_cons_succ, Act.put, List.setIfInBounds_toArray, List.set_cons_zero, List.set_cons_succ]
        refine wpAnyH_take (i := 20) (v := ?_) rfl (by kernel_rfl) (by kernel_rfl) (by kernel_rfl) (fun _ _ _ h => h) (Or.inl ⟨by go_simp, ?_⟩) hS ?_
        rotate_left 1
        · intro w' hSw
          go_simp <;> with_reducible rfl
        try simp only [List.getElem_toArray, List.getElem_cons_zero, List.getElem_cons_succ, Act.put, List.setIfInBounds_toArray, List.set_cons_zero, List.set_cons_succ]
        refine wpAnyH_take (i := 21) (v := ?_) rfl (by kernel_rfl) (by kernel_rfl) (by kernel_rfl) (fun _ _ _ h => h) (Or.inl ⟨by go_simp, ?_⟩) hS ?_
        rotate_left 1
        · intro w' hSw
          go_simp <;> with_reducible rfl
        try simp only [List.getElem_toArray, List.getElem_cons_zero, List.getElem_cons_succ, Act.put, List.setIfInBounds_toArray, List.set_cons_zero, List.set_cons_succ]
        refine wpAnyH_take (i := 22) (v := ?_) rfl (by kernel_rfl) (by kernel_rfl) (by kernel_rfl) (fun _ _ _ h => h) (Or.inl ⟨by go_simp, ?_⟩) hS ?_
        rotate_left 1
        · intro w' hSw
          go_simp <;> with_reducible rfl
        try simp only [List.getElem_toArray, List.getElem_cons_zero, List.getElem_cons_succ, Act.put, List.setIfInBounds_toArray, List.set_cons_zero, List.set_cons_succ]
        refine wpAnyH_take (i := 23) (v := ?_) rfl (by kernel_rfl) (by kernel_rfl) (by kernel_rfl) (fun _ _ _ h => h) (Or.inl ⟨by go_simp, ?_⟩) hS ?_
        rotate_left 1
        · intro w' hSw
          go_simp <;> with_reducible rfl
        try simp only [List.getElem_toArray, List.getElem_cons_zero, List.getElem_cons_succ, Act.put, List.setIfInBounds_toArray, List.set_cons_zero, List.set_cons_succ]
        refine wpAnyH_take (i := 24) (v := ?_) rfl (by kernel_rfl) (by kernel_rfl) (by kernel_rfl) (fun _ _ _ h => h) (Or.inl ⟨by go_simp, ?_⟩) hS ?_
        rotate_left 1
        · intro w' hSw
          go_simp <;> with_reducible rfl
        try simp only [List.getElem_toArray, List.getElem_cons_zero, List.getElem_cons_succ, Act.put, List.setIfInBounds_toArray, List.set_cons_zero, List.set_cons_succ]
        refine wpAnyH_take (i := 25) (v := ?_) rfl (by kernel_rfl) (by kernel_rfl) (by kernel_rfl) (fun _ _ _ h => h) (Or.inl ⟨by go_simp, ?_⟩) hS ?_
        rotate_left 1
        · intro w' hSw
          go_simp <;> with_reducible rfl
        try simp only [List.getElem_toArray, List.getElem_cons_zero, List.getElem_cons_succ, Act.put, List.setIfInBounds_toArray, List.set_cons_zero, List.set_cons_succ]
        refine wpAnyH_take (i := 26) (v := ?_) rfl (by kernel_rfl) (by kernel_rfl) (by kernel_rfl) (fun _ _ _ h => h) (Or.inl ⟨by go_simp, ?_⟩) hS ?_
        rotate_left 1
        · intro w' hSw
          go_simp <;> with_reducible rfl
        try simp only [List.getElem_toArray, List.getElem_cons_zero, List.getElem_cons_succ, Act.put, List.setIfInBounds_toArray, List.set_cons_zero, List.set_cons_succ]
        refine wpAnyH_take (i := 27) (v := ?_) rfl (by kernel_rfl) (by kernel_rfl) (by kernel_rfl) (fun _ _ _ h => h) (Or.inl ⟨by go_simp, ?_⟩) hS ?_
        rotate_left 1
        · intro w' hSw
          go_simp <;> with_reducible rfl
        try simp only [List.getElem_toArray, List.getElem_cons_zero, List.getElem_cons_succ, Act.put, List.setIfInBounds_toArray, List.set_cons_zero, List.set_cons_succ]
        refine wpAnyH_take (i := 28) (v := ?_) rfl (by kernel_rfl) (by kernel_rfl) (by kernel_rfl) (fun _ _ _ h => h) (Or.inl ⟨by go_simp, ?_⟩) hS ?_
        rotate_left 1
        · intro w' hSw
          go_simp <;> with_reducible rfl
        try simp only [List.getElem_toArray, List.getElem_cons_zero, List.getElem_cons_succ, Act.put, List.setIfInBounds_toArray, List.set_cons_zero, List.set_cons_succ]
        refine wpAnyH_take (i := 29) (v := ?_) rfl (by kernel_rfl) (by kernel_rfl) (by kernel_rfl) (fun _ _ _ h => h) (Or.inl ⟨by go_simp, ?_⟩) hS ?_
        rotate_left 1
        · intro w' hSw
          go_simp <;> with_reducible rfl
        try simp only [List.getElem_toArray, List.getElem_cons_zero, List.getElem_cons_succ, Act.put, List.setIfInBounds_toArray, List.set_cons_zero, List.set_cons_succ]
        refine wpAnyH_ready (rs := [30]) (by kernel_rfl) (by simp) (AllReadyH.cons rfl (fun K hK => ?_) AllReadyH.nil)
        go_simp
        refine (HC.out _).mono ?_
        rintro _ w2 ⟨rfl, hb2⟩
        have hS2 : w2.cell? ⟨g, k * 8, none⟩ = some (.int .u8 x0) ∧ w2.cell? ⟨g, k * 8 + 1, none⟩ = some (.bool x1) ∧ w2.cell? ⟨g, k * 8 + 2, none⟩ = some (.int .i64 x2) ∧ w2.cell? ⟨g, k * 8 + 3, none⟩ = some (.int .i64 x3) ∧ w2.cell? ⟨g, k * 8 + 4, none⟩ = some (.bool x4) ∧ w2.cell? ⟨g, k * 8 + 5, none⟩ = some (.int .i64 x5) ∧ w2.cell? ⟨g, k * 8 + 6, none⟩ = some (.int .i64 x6) ∧ w2.cell? ⟨g, k * 8 + 7, none⟩ = some (.int .i64 x7) := ⟨(hb2.cell (p := ⟨g, k * 8, none⟩) hgl).trans e0, (hb2.cell (p := ⟨g, k * 8 + 1, none⟩) hgl).trans e1, (hb2.cell (p := ⟨g, k * 8 + 2, none⟩) hgl).trans e2, (hb2.cell (p := ⟨g, k * 8 + 3, none⟩) hgl).trans e3, (hb2.cell (p := ⟨g, k * 8 + 4, none⟩) hgl).trans e4, (hb2.cell (p := ⟨g, k * 8 + 5, none⟩) hgl).trans e5, (hb2.cell (p := ⟨g, k * 8 + 6, none⟩) hgl).trans e6, (hb2.cell (p := ⟨g, k * 8 + 7, none⟩) hgl).trans e7⟩
        go_simp
        refine hK _ _ hS2 (fun hS => ?_)
        clear hK K hS2
        try simp only [List.getElem_toArray, List.getElem_cons_zero, List.getElem_cons_succ, Act.put, List.setIfInBounds_toArray, List.set_cons_zero, List.set_cons_succ]
        refine wpAnyH_take (i := 31) (v := ?_) rfl (by kernel_rfl) (by kernel_rfl) (by kernel_rfl) (fun _ _ _ h => h) (Or.inl ⟨by go_simp, ?_⟩) hS ?_
        rotate_left 1
        · intro w' hSw
          go_simp <;> with_reducible rfl
        try simp only [List.getElem_toArray, List.getElem_cons_zero, List.getElem_cons_succ, Act.put, List.setIfInBounds_toArray, List.set_cons_zero, List.set_cons_succ]
        refine wpAnyH_take (i := 32) (v := ?_) rfl (by kernel_rfl) (by kernel_rfl) (by kernel_rfl) (fun _ _ _ h => h) (Or.inl ⟨by go_simp, ?_⟩) hS ?_
        rotate_left 1
        · intro w' hSw
          go_simp <;> with_reducible rfl
        try simp only [List.getElem_toArray, List.getElem_cons_zero, List.getElem_cons_succ, Act.put, List.setIfInBounds_toArray, List.set_cons_zero, List.set_cons_succ]
        refine wpAnyH_take (i := 33) (v := ?_) rfl (by kernel_rfl) (by kernel_rfl) (by kernel_rfl) (fun _ _ _ h => h) (Or.inl ⟨by go_simp, ?_⟩) hS ?_
        rotate_left 1
        · intro w' hSw
          go_simp <;> with_reducible rfl
        try simp only [List.getElem_toArray, List.getElem_cons_zero, List.getElem_cons_succ, Act.put, List.setIfInBounds_toArray, List.set_cons_zero, List.set_cons_succ]
        refine wpAnyH_take (i := 34) (v := ?_) rfl (by kernel_rfl) (by kernel_rfl) (by kernel_rfl) (fun _ _ _ h => h) (Or.inl ⟨by rfl, ?_⟩) hS ?_
        rotate_left 1
        · intro w' hSw
          go_simp <;> with_reducible rfl
        try simp only [List.getElem_toArray, List.getElem_cons_zero, List.getElem_cons_succ, Act.put, List.setIfInBounds_toArray, List.set_cons_zero, List.set_cons_succ]
        refine wpAnyH_done (by kernel_rfl) ?_ _
        have HB2 := Lib.hid hb2
        clear hb2 hS
        go_wp2_with fail
        go_roundw
        case rel => exact ⟨k + 1, by omega, by go_num, Lib.hid (HBR.out.trans (((Below.refl _ _).drew.trans HB2.out).mono HBR.out.size))⟩
        case measure => simp [intOf]; omega
    · obtain rfl : k = ys.length + 12 := by omega
      have d1 : decide (((ys.length + 12 : Nat) : Int) < (ys.length : Int) + 12) = false := decide_eq_false (by omega)
      go_wp2_with fail
      go_ret
      exact ⟨rfl, HBR.out⟩
end Go.Proofs.YtjebjninlejoeaaGreatDoor
namespace Go.Proofs.YtjebjninlejoeaaGreatDoor
open Go.RowKit
set_option linter.unusedVariables false
set_option maxRecDepth 100000

theorem mark_any (k i : Int) (w : World) (h0 : 0 ≤ k) (h1 : k ≤ 1000000000) (h2 : 0 ≤ i) (h3 : i ≤ 1000000000000000) :
    Calls Tryz.prog 97 #[.int .i64 k, .int .i64 i] w fun e w' => e = .returned (.int .i64 (1000003 * (k + 7) + i)) ∧ w = w' := by
  go_enter Tryz.func97, Tryz.ntmps97
  go_wp2
  go_ret
  exact ⟨rfl, rfl⟩
/-- The mark of a place in a list of bytes. -/
def markB (k i : Int) : Int := IntKind.u64.wrap ((1000003 * (k + 7) + i) * 11400714819323198485) / 72057594037927936 % 256
theorem markByte_any (k i : Int) (w : World) (h0 : 0 ≤ k) (h1 : k ≤ 1000000000) (h2 : 0 ≤ i) (h3 : i ≤ 1000000000000000) :
    Calls Tryz.prog 153 #[.int .i64 k, .int .i64 i] w fun e w' => e = .returned (.int .u8 (markB k i)) ∧ w = w' := by
  go_enter Tryz.func153, Tryz.ntmps153
  go_wp2_with (go_at_call 97; refine (mark_any _ _ _ (by omega) (by omega) (by omega) (by omega)).mono ?_; rintro e w' ⟨rfl, rfl⟩)
  go_ret
  exact ⟨rfl, rfl⟩
theorem markB_range (k i : Int) : 0 ≤ markB k i ∧ markB k i < 256 := by unfold markB; omega

theorem u8_info : (Tryz.prog.info? 5).map (fun i => (i.zero, i.size, i.bytes)) = some (some (.int .u8 0), 1, 1) := by kernel_rfl

theorem own_all {w : World} {base e g n cap : Nat} {xs : List Value} (h : w.ownsRow base e 1 (.slice (some ⟨g, 0, none⟩) n cap) n xs) (hc : cap ≤ n) : Bk w g e xs := by
  rcases h.2 with ⟨h', _⟩ | ⟨g', cap', cur, h', _, hg, hnc, hcm, hcs, htake⟩
  · simp at h'
  · simp only [Value.slice.injEq, Option.some.injEq, Addr.mk.injEq, and_true, true_and] at h'
    obtain ⟨rfl, rfl⟩ := h'
    unfold Bk
    rw [hg, ← htake, List.take_of_length_le (by simp; omega)]

end Go.Proofs.YtjebjninlejoeaaGreatDoor
namespace Go.Proofs.YtjebjninlejoeaaGreatDoor
open Go.RowKit
set_option linter.unusedVariables false

variable {P : Program} (w : World)
theorem run_append_full (t ty e : TypeId) (i : TypeInfo) (z : Value) (size bytes : Nat) (ht : P.underlying t = some (.slice e)) (hi : P.info? e = some i) (hz : i.zero = some z)
    (hsize : i.size = size) (hby : i.bytes = bytes) (hzs : z.cells.size = size)
    (base : Nat) (v : Value) (n : Nat) (xs : List Value) (hown : w.ownsRow base e size v n xs) (hbase : base ≤ w.heap.size)
    (a : Addr) (m c : Nat) (news : List Value) (hl : news.length = m * size) (hnews : ∀ j u, news[j]? = some u → w.cell? (a.add j) = some u) (h1 : ∀ u ∈ news, u.oneCell' = true)
    (h63 : n + m ≤ maxLen) (hbytes : (n + m) * bytes ≤ 140737488355328) (hm : 0 < m) :
    ∃ v' w' g', (Builtin.append_ #[t, t] ty #[v, .slice (some a) m c]).run P w = .ok v' w' ∧ w'.ownsRow base e size v' (n + m) (xs ++ news) ∧ w.grownBy w' v.ownBlock ∧ v'.ownBlock = some g' ∧
      (g' = w.heap.size ∨ v.ownBlock = some g') := by
  subst hsize
  subst hby
  have hsmall : n + m ≤ 9223372036854775807 := by simp only [maxLen] at h63; omega
  have hlen : (xs ++ news).length = (n + m) * i.size := by rw [List.length_append, hown.1, hl, Nat.add_mul]
  have grown : ∀ (old : Nat) (row : Option Nat),
      (w.drew.alloc (.cells (xs.toArray ++ news.toArray ++ Builtin.zeroCells z.cells (grownCap w (n + m) old e - (n + m))) e)).ownsRow base e i.size
        (.slice (some ⟨w.heap.size, 0, none⟩) (n + m) (grownCap w (n + m) old e)) (n + m) (xs ++ news) ∧
      w.grownBy (w.drew.alloc (.cells (xs.toArray ++ news.toArray ++ Builtin.zeroCells z.cells (grownCap w (n + m) old e - (n + m))) e)) row := by
    intro old row
    have hge := grownCap_ge w (n + m) old e
    refine ⟨⟨hlen, .inr ⟨_, _, _, rfl, hbase, heap_alloc_new w.drew _, hge, grownCap_le_maxLen w (n + m) old e h63, ?_, ?_⟩⟩, ⟨rfl, rfl, rfl, by simp, fun k hk _ => heap_alloc_old w.drew _ hk⟩⟩
    · simp only [Array.size_append, List.size_toArray, size_zeroCells, hzs, hown.1, hl, ← Nat.add_mul]
      congr 1
      omega
    · simp only [Array.toList_append, List.append_assoc]
      rw [← List.append_assoc, ← hlen]
      exact List.take_left
  rcases hown.2 with ⟨rfl, rfl⟩ | ⟨g, cap, cur, rfl, hb, hg, hnc, hcm, hcs, htake⟩
  · have hx : xs = [] := List.eq_nil_of_length_eq_zero (by simpa using hown.1)
    subst hx
    have hr := run_append_nil (P := P) w t ty e i z ht hi hz a m c news hl hnews hm (by omega) (by have hb := hbytes; simp only [Nat.zero_add] at hb; omega)
    have hgr := grown 0 (Value.ownBlock (.slice none 0 0))
    simp only [Nat.zero_add, List.nil_append, Array.empty_append] at hgr ⊢
    exact ⟨_, _, _, hr, hgr.1, hgr.2, rfl, .inl rfl⟩
  · by_cases hroom : n + m ≤ cap
    · have hfit : n * i.size + news.length ≤ cur.size := by rw [hl, hcs, ← Nat.add_mul]; exact Nat.mul_le_mul_right _ hroom
      have hr := run_append_room (P := P) w t ty e i ht hi g n cap cur hg a m c news hl hnews h1 hroom hfit
      refine ⟨_, _, g, hr, ⟨hlen, .inr ⟨g, cap, _, rfl, hb, setRow_heap w g cur _ e _ hg, hroom, hcm, ?_, ?_⟩⟩, ⟨rfl, rfl, rfl, by simp, fun k _ hk => setRow_other w g k _ (fun e => hk (by simp [Value.ownBlock, e]))⟩, rfl, .inr rfl⟩
      · simp only [List.size_toArray, List.length_append, List.length_take, List.length_drop, Array.length_toList]
        omega
      · rw [htake, ← hlen]
        exact List.take_left
    · have holds := World.ownsRow.cells (g := g) hown rfl
      have hr := run_append_grow (P := P) w t ty e i z ht hi hz ⟨g, 0, none⟩ n cap xs hown.1 holds a m c news hl hnews (by omega) (by omega) (growslice_fits (by omega) hbytes)
      have hgr := grown cap (Value.ownBlock (.slice (some ⟨g, 0, none⟩) n cap))
      exact ⟨_, _, _, hr, hgr.1, hgr.2, rfl, .inl rfl⟩
theorem wpList_append_full {ops : Array Oper} {rest : List Oper} {o : Oper} {a : Act} {Q : Exit → Act → World → Prop} (hgd : o.guard = none) (s x : Operand) (t : TypeId)
    (ho : o.op = .call { callee := .builtin .append, args := #[s, x], argTypes := #[t, t] })
    (e : TypeId) (i : TypeInfo) (z : Value) (size bytes : Nat) (ht : P.underlying t = some (.slice e)) (hi : P.info? e = some i) (hz : i.zero = some z)
    (hsize : i.size = size) (hby : i.bytes = bytes) (hzs : z.cells.size = size)
    (base : Nat) (v : Value) (n : Nat) (xs : List Value) (hs : a.eval s = v) (hown : w.ownsRow base e size v n xs) (hbase : base ≤ w.heap.size)
    (ad : Addr) (m c : Nat) (news : List Value) (hx : a.eval x = .slice (some ad) m c) (hl : news.length = m * size) (hnews : ∀ j u, news[j]? = some u → w.cell? (ad.add j) = some u) (h1 : ∀ u ∈ news, u.oneCell' = true)
    (h63 : n + m ≤ maxLen) (hbytes : (n + m) * bytes ≤ 140737488355328) (hm : 0 < m)
    (h : ∀ v' w' g', w'.ownsRow base e size v' (n + m) (xs ++ news) → w.grownBy w' v.ownBlock → v'.ownBlock = some g' → (g' = w.heap.size ∨ v.ownBlock = some g') → wpList P ops Q rest (a.put o.dst v') w') : wpList P ops Q (o :: rest) a w := by
  refine wpList_plain hgd fun K hK => ?_
  obtain ⟨v', w', g', hr, h2, h3, h4, h5⟩ := run_append_full (P := P) w t o.type e i z size bytes ht hi hz hsize hby hzs base v n xs hown hbase ad m c news hl hnews h1 h63 hbytes hm
  unfold Oper.wp execOp
  simp only [ho, resolve, invoke, builtin, Sem.run_bind, Sem.run_pure, Result.andThen_ok, List.map_toArray, List.map_cons, List.map_nil, hs, hx, hr]
  exact hK _ _ (h v' w' g' h2 h3 h4 h5)
/-- .. at a step of a region that draws its order. -/
theorem step_append_full {ops : Array Oper} {o : Oper} {a : Act} {K : Act → World → Prop} {Q : Exit → Act → World → Prop} {E : Prop} (hgd : o.guard = none) (s x : Operand) (t : TypeId)
    (ho : o.op = .call { callee := .builtin .append, args := #[s, x], argTypes := #[t, t] })
    (e : TypeId) (i : TypeInfo) (z : Value) (size bytes : Nat) (ht : P.underlying t = some (.slice e)) (hi : P.info? e = some i) (hz : i.zero = some z)
    (hsize : i.size = size) (hby : i.bytes = bytes) (hzs : z.cells.size = size)
    (base : Nat) (v : Value) (n : Nat) (xs : List Value) (hs : a.eval s = v) (hown : w.ownsRow base e size v n xs) (hbase : base ≤ w.heap.size)
    (ad : Addr) (m c : Nat) (news : List Value) (hx : a.eval x = .slice (some ad) m c) (hl : news.length = m * size) (hnews : ∀ j u, news[j]? = some u → w.cell? (ad.add j) = some u) (h1 : ∀ u ∈ news, u.oneCell' = true)
    (h63 : n + m ≤ maxLen) (hbytes : (n + m) * bytes ≤ 140737488355328) (hm : 0 < m)
    (h : ∀ v' w' g', w'.ownsRow base e size v' (n + m) (xs ++ news) → w.grownBy w' v.ownBlock → v'.ownBlock = some g' → (g' = w.heap.size ∨ v.ownBlock = some g') → K (a.put o.dst v') w') :
    if Region.wanted o (yielded ops a.tmps) = true then Oper.wp P o a w K Q else E := by
  have hw : Region.wanted o (yielded ops a.tmps) = true := by simp [Region.wanted, hgd]
  rw [if_pos hw]
  obtain ⟨v', w', g', hr, h2, h3, h4, h5⟩ := run_append_full (P := P) w t o.type e i z size bytes ht hi hz hsize hby hzs base v n xs hown hbase ad m c news hl hnews h1 h63 hbytes hm
  unfold Oper.wp execOp
  simp only [ho, resolve, invoke, builtin, Sem.run_bind, Sem.run_pure, Result.andThen_ok, List.map_toArray, List.map_cons, List.map_nil, hs, hx, hr]
  exact h v' w' g' h2 h3 h4 h5
end Go.Proofs.YtjebjninlejoeaaGreatDoor
namespace Go.Proofs.YtjebjninlejoeaaGreatDoor
open Go.RowKit
set_option linter.unusedVariables false
set_option maxRecDepth 100000

/-- What append does to a row: it lies where it was, with its capacity, and what began there reads as it did; or all old blocks are as they were. -/
structure Grew (w w' : World) (e : TypeId) (size : Nat) (v v' : Value) (g g' n m : Nat) : Prop where
  gr : w.grownBy w' v.ownBlock
  own : v'.ownBlock = some g'
  lt : g' < w'.heap.size
  how : (g' = w.heap.size ∧ ∀ b, b < w.heap.size → w'.heap[b]? = w.heap[b]?) ∨
    (g' = g ∧ ∃ cap, v = .slice (some ⟨g, 0, none⟩) n cap ∧ v' = .slice (some ⟨g, 0, none⟩) (n + m) cap ∧ ∀ n0 ys, n0 ≤ n → Row w e size (.slice (some ⟨g, 0, none⟩) n0 cap) g n0 ys → Row w' e size (.slice (some ⟨g, 0, none⟩) n0 cap) g n0 ys)

section
variable {P : Program} (w : World)
theorem run_append_grew (t ty e : TypeId) (i : TypeInfo) (z : Value) (size bytes : Nat) (ht : P.underlying t = some (.slice e)) (hi : P.info? e = some i) (hz : i.zero = some z)
    (hsize : i.size = size) (hby : i.bytes = bytes) (hzs : z.cells.size = size)
    (v : Value) (g n : Nat) (xs : List Value) (hown : Row w e size v g n xs)
    (a : Addr) (m c : Nat) (news : List Value) (hl : news.length = m * size) (hnews : ∀ j u, news[j]? = some u → w.cell? (a.add j) = some u) (h1 : ∀ u ∈ news, u.oneCell' = true)
    (h63 : n + m ≤ maxLen) (hbytes : (n + m) * bytes ≤ 140737488355328) (hm : 0 < m) :
    ∃ v' w' g', (Builtin.append_ #[t, t] ty #[v, .slice (some a) m c]).run P w = .ok v' w' ∧ Row w' e size v' g' (n + m) (xs ++ news) ∧ Grew w w' e size v v' g g' n m := by
  subst hsize
  subst hby
  have hsmall : n + m ≤ 9223372036854775807 := by simp only [maxLen] at h63; omega
  have hlen : (xs ++ news).length = (n + m) * i.size := by rw [List.length_append, hown.1, hl, Nat.add_mul]
  have grown : ∀ (old : Nat) (row : Option Nat),
      Row (w.drew.alloc (.cells (xs.toArray ++ news.toArray ++ Builtin.zeroCells z.cells (grownCap w (n + m) old e - (n + m))) e)) e i.size
        (.slice (some ⟨w.heap.size, 0, none⟩) (n + m) (grownCap w (n + m) old e)) w.heap.size (n + m) (xs ++ news) ∧
      w.grownBy (w.drew.alloc (.cells (xs.toArray ++ news.toArray ++ Builtin.zeroCells z.cells (grownCap w (n + m) old e - (n + m))) e)) row := by
    intro old row
    have hge := grownCap_ge w (n + m) old e
    refine ⟨⟨hlen, .inr ⟨_, _, rfl, heap_alloc_new w.drew _, hge, grownCap_le_maxLen w (n + m) old e h63, ?_, fun _ => ?_⟩⟩, ⟨rfl, rfl, rfl, by simp, fun k hk _ => heap_alloc_old w.drew _ hk⟩⟩
    · simp only [Array.toList_append, List.append_assoc]
      rw [← List.append_assoc, ← hlen]
      exact List.take_left
    · simp only [Array.size_append, List.size_toArray, size_zeroCells, hzs, hown.1, hl, ← Nat.add_mul]
      congr 1
      omega
  rcases hown.2 with ⟨rfl, rfl⟩ | ⟨cap, cur, rfl, hg, hnc, hcm, htake, hcs⟩
  · have hx : xs = [] := List.eq_nil_of_length_eq_zero (by simpa using hown.1)
    subst hx
    have hr := run_append_nil (P := P) w t ty e i z ht hi hz a m c news hl hnews hm (by omega) (by have hb := hbytes; simp only [Nat.zero_add] at hb; omega)
    have hgr := grown 0 (Value.ownBlock (.slice none 0 0))
    simp only [Nat.zero_add, List.nil_append, Array.empty_append] at hgr ⊢
    exact ⟨_, _, _, hr, hgr.1, ⟨hgr.2, rfl, by simp, .inl ⟨rfl, fun b hb => heap_alloc_old w.drew _ hb⟩⟩⟩
  · by_cases hroom : n + m ≤ cap
    · have hcs' := hcs (by omega)
      have hfit : n * i.size + news.length ≤ cur.size := by rw [hl, hcs', ← Nat.add_mul]; exact Nat.mul_le_mul_right _ hroom
      have hr := run_append_room (P := P) w t ty e i ht hi g n cap cur hg a m c news hl hnews h1 hroom hfit
      refine ⟨_, _, g, hr, ⟨hlen, .inr ⟨cap, _, rfl, setRow_heap w g cur _ e _ hg, hroom, hcm, ?_, fun _ => ?_⟩⟩, ⟨⟨rfl, rfl, rfl, by simp, fun k _ hk => setRow_other w g k _ (fun e => hk (by simp [Value.ownBlock, e]))⟩, rfl, ?_, .inr ⟨rfl, cap, rfl, rfl, fun n0 ys hn0 hR => ?_⟩⟩⟩
      · rw [htake, ← hlen]
        exact List.take_left
      · simp only [List.size_toArray, List.length_append, List.length_take, List.length_drop, Array.length_toList]
        omega
      · have := (Array.getElem?_eq_some_iff.1 hg).1
        simpa using this
      · refine ⟨hR.1, ?_⟩
        rcases hR.2 with ⟨h, _⟩ | ⟨cap', cur', h, hg', q1, q2, q3, q4⟩
        · cases h
        · injection h with _ _ h
          subst h
          rw [hg] at hg'
          injection hg' with hg'
          injection hg' with hg'
          subst hg'
          refine .inr ⟨cap, _, rfl, setRow_heap w g cur _ e _ hg, q1, q2, ?_, fun _ => ?_⟩
          · have hle : n0 * i.size ≤ n * i.size := Nat.mul_le_mul_right _ hn0
            have hxl := hown.1
            simp only [htake, List.append_assoc]
            rw [List.take_append_of_le_length (by omega), ← q3, ← htake, List.take_take, Nat.min_eq_left hle]
          · simp only [List.size_toArray, List.length_append, List.length_take, List.length_drop, Array.length_toList]
            omega
    · have holds := hown.cells (by simp [Value.ownBlock])
      have hr := run_append_grow (P := P) w t ty e i z ht hi hz ⟨g, 0, none⟩ n cap xs hown.1 holds a m c news hl hnews (by omega) (by omega) (growslice_fits (by omega) hbytes)
      have hgr := grown cap (Value.ownBlock (.slice (some ⟨g, 0, none⟩) n cap))
      exact ⟨_, _, _, hr, hgr.1, ⟨hgr.2, rfl, by simp, .inl ⟨rfl, fun b hb => heap_alloc_old w.drew _ hb⟩⟩⟩
theorem wpList_append_grew {ops : Array Oper} {rest : List Oper} {o : Oper} {a : Act} {Q : Exit → Act → World → Prop} (hgd : o.guard = none) (s x : Operand) (t : TypeId)
    (ho : o.op = .call { callee := .builtin .append, args := #[s, x], argTypes := #[t, t] })
    (e : TypeId) (i : TypeInfo) (z : Value) (size bytes : Nat) (ht : P.underlying t = some (.slice e)) (hi : P.info? e = some i) (hz : i.zero = some z)
    (hsize : i.size = size) (hby : i.bytes = bytes) (hzs : z.cells.size = size)
    (v : Value) (g n : Nat) (xs : List Value) (hs : a.eval s = v) (hown : Row w e size v g n xs)
    (ad : Addr) (m c : Nat) (news : List Value) (hx : a.eval x = .slice (some ad) m c) (hl : news.length = m * size) (hnews : ∀ j u, news[j]? = some u → w.cell? (ad.add j) = some u) (h1 : ∀ u ∈ news, u.oneCell' = true)
    (h63 : n + m ≤ maxLen) (hbytes : (n + m) * bytes ≤ 140737488355328) (hm : 0 < m)
    (h : ∀ v' w' g', Row w' e size v' g' (n + m) (xs ++ news) → Grew w w' e size v v' g g' n m → wpList P ops Q rest (a.put o.dst v') w') : wpList P ops Q (o :: rest) a w := by
  refine wpList_plain hgd fun K hK => ?_
  obtain ⟨v', w', g', hr, h2, h3⟩ := run_append_grew (P := P) w t o.type e i z size bytes ht hi hz hsize hby hzs v g n xs hown ad m c news hl hnews h1 h63 hbytes hm
  unfold Oper.wp execOp
  simp only [ho, resolve, invoke, builtin, Sem.run_bind, Sem.run_pure, Result.andThen_ok, List.map_toArray, List.map_cons, List.map_nil, hs, hx, hr]
  exact hK _ _ (h v' w' g' h2 h3)
/-- .. at a step of a region that draws its order. -/
theorem step_append_grew {ops : Array Oper} {o : Oper} {a : Act} {K : Act → World → Prop} {Q : Exit → Act → World → Prop} {E : Prop} (hgd : o.guard = none) (s x : Operand) (t : TypeId)
    (ho : o.op = .call { callee := .builtin .append, args := #[s, x], argTypes := #[t, t] })
    (e : TypeId) (i : TypeInfo) (z : Value) (size bytes : Nat) (ht : P.underlying t = some (.slice e)) (hi : P.info? e = some i) (hz : i.zero = some z)
    (hsize : i.size = size) (hby : i.bytes = bytes) (hzs : z.cells.size = size)
    (v : Value) (g n : Nat) (xs : List Value) (hs : a.eval s = v) (hown : Row w e size v g n xs)
    (ad : Addr) (m c : Nat) (news : List Value) (hx : a.eval x = .slice (some ad) m c) (hl : news.length = m * size) (hnews : ∀ j u, news[j]? = some u → w.cell? (ad.add j) = some u) (h1 : ∀ u ∈ news, u.oneCell' = true)
    (h63 : n + m ≤ maxLen) (hbytes : (n + m) * bytes ≤ 140737488355328) (hm : 0 < m)
    (h : ∀ v' w' g', Row w' e size v' g' (n + m) (xs ++ news) → Grew w w' e size v v' g g' n m → K (a.put o.dst v') w') :
    if Region.wanted o (yielded ops a.tmps) = true then Oper.wp P o a w K Q else E := by
  have hw : Region.wanted o (yielded ops a.tmps) = true := by simp [Region.wanted, hgd]
  rw [if_pos hw]
  obtain ⟨v', w', g', hr, h2, h3⟩ := run_append_grew (P := P) w t o.type e i z size bytes ht hi hz hsize hby hzs v g n xs hown ad m c news hl hnews h1 h63 hbytes hm
  unfold Oper.wp execOp
  simp only [ho, resolve, invoke, builtin, Sem.run_bind, Sem.run_pure, Result.andThen_ok, List.map_toArray, List.map_cons, List.map_nil, hs, hx, hr]
  exact h v' w' g' h2 h3
end

/-- A list of lists: its slice, its block, its length. -/
structure Fs where
  v : Value
  b : Nat
  n : Nat
/-- Lists of elements, each in a block of its own, of which S holds, with the cells C k. -/
structure Fl (w : World) (e : TypeId) (size : Nat) (S : Nat → Prop) (ls : List Fs) (C : Nat → List Value) : Prop where
  row : ∀ (k : Nat) (x : Fs), ls[k]? = some x → Row w e size x.v x.b x.n (C k)
  own : ∀ (k : Nat) (x : Fs), ls[k]? = some x → x.v.ownBlock = some x.b → S x.b ∧ x.b < w.heap.size
  dis : ∀ (k k' : Nat) (x x' : Fs), ls[k]? = some x → ls[k']? = some x' → k ≠ k' → x.v.ownBlock = some x.b → x'.v.ownBlock = some x'.b → x.b ≠ x'.b
theorem Row.shape {w : World} {e : TypeId} {size : Nat} {v : Value} {g n : Nat} {xs : List Value} (h : Row w e size v g n xs) : ∃ A c, v = .slice A n c ∧ n ≤ c ∧ c ≤ maxLen ∧ (0 < n → A = some ⟨g, 0, none⟩) := by
  rcases h.2 with ⟨rfl, rfl⟩ | ⟨cap, cur, rfl, hg, h1, h2, _⟩
  · exact ⟨none, 0, rfl, Nat.le_refl _, by decide, fun h => absurd h (by omega)⟩
  · exact ⟨_, cap, rfl, h1, h2, fun _ => rfl⟩
theorem Row.set {w : World} {e : TypeId} {size : Nat} {v : Value} {g n : Nat} {xs : List Value} (h : Row w e size v g n xs) (j : Nat) (u : Value) (hj : j < n * size) : Row (w.setCell ⟨g, j, none⟩ u) e size v g n (xs.set j u) := by
  refine ⟨by simpa using h.1, ?_⟩
  rcases h.2 with ⟨rfl, rfl⟩ | ⟨cap, cur, rfl, hg, h1, h2, h3, h4⟩
  · simp at hj
  · refine .inr ⟨cap, _, rfl, heap_setCell_same _ _ _ _ _ _ hg, h1, h2, ?_, fun h => by simpa using h4 h⟩
    rw [← h3]
    simp [List.take_set]
theorem Fl.keep {w w' : World} {e : TypeId} {size : Nat} {S : Nat → Prop} {ls : List Fs} {C : Nat → List Value} (h : Fl w e size S ls C) (hk : ∀ b, S b → b < w.heap.size → w'.heap[b]? = w.heap[b]?) (hs : w.heap.size ≤ w'.heap.size) : Fl w' e size S ls C :=
  ⟨fun k x hx => (h.row k x hx).keep (fun e => let ⟨h1, h2⟩ := h.own k x hx e; hk _ h1 h2), fun k x hx e => let ⟨h1, h2⟩ := h.own k x hx e; ⟨h1, Nat.lt_of_lt_of_le h2 hs⟩, h.dis⟩
theorem Fl.below {w w' : World} {e : TypeId} {size : Nat} {S : Nat → Prop} {ls : List Fs} {C : Nat → List Value} (h : Fl w e size S ls C) (hb : Below w.heap.size w w') : Fl w' e size S ls C := h.keep (fun b _ hl => hb.block b hl) hb.size
theorem Fl.eq {w : World} {e : TypeId} {size : Nat} {S : Nat → Prop} {ls : List Fs} {C C' : Nat → List Value} (h : Fl w e size S ls C) (hC : ∀ (k : Nat) (x : Fs), ls[k]? = some x → C k = C' k) : Fl w e size S ls C' :=
  ⟨fun k x hx => by rw [← hC k x hx]; exact h.row k x hx, h.own, h.dis⟩
/-- The cells of list k, at j turned to u. -/
def updC (C : Nat → List Value) (k j : Nat) (u : Value) : Nat → List Value := fun q => if q = k then (C k).set j u else C q
theorem own_of_row {w : World} {e : TypeId} {size : Nat} {v : Value} {g n : Nat} {xs : List Value} (h : Row w e size v g n xs) {k : Nat} (hk : v.ownBlock = some k) : v.ownBlock = some g := by
  rcases h.2 with ⟨rfl, rfl⟩ | ⟨cap, cur, rfl, _⟩
  · cases hk
  · rfl
theorem Fl.set {w : World} {e : TypeId} {size : Nat} {S : Nat → Prop} {ls : List Fs} {C : Nat → List Value} (h : Fl w e size S ls C) {k : Nat} {x : Fs} (hx : ls[k]? = some x) (j : Nat) (u : Value) (hj : j < x.n * size) :
    Fl (w.setCell ⟨x.b, j, none⟩ u) e size S ls (updC C k j u) := by
  have hsz : (w.setCell ⟨x.b, j, none⟩ u).heap.size = w.heap.size := by simp [World.setCell]
  have hxo : x.v.ownBlock = some x.b := by
    rcases (h.row k x hx).2 with ⟨_, h0⟩ | ⟨cap, cur, e, _⟩
    · rw [h0] at hj; simp at hj
    · rw [e]; rfl
  refine ⟨fun q y hy => ?_, fun q y hy e => by rw [hsz]; exact h.own q y hy e, h.dis⟩
  by_cases hq : q = k
  · subst hq
    have : y = x := by rw [hx] at hy; injection hy with hy; exact hy.symm
    subst this
    simp only [updC, if_true]
    exact (h.row q y hy).set j u hj
  · simp only [updC, if_neg hq]
    exact (h.row q y hy).keep (fun e => Below.heap_setCell _ _ _ _ (h.dis q k y x hy hx hq e hxo))

/-- The marks of a list. -/
def mks (mk : Nat → Nat → List Value) (k n : Nat) : List Value := (List.range n).flatMap (mk k)
theorem mks_succ (mk : Nat → Nat → List Value) (k n : Nat) : mks mk k (n + 1) = mks mk k n ++ mk k n := by simp [mks, List.range_succ]
theorem mks_len {mk : Nat → Nat → List Value} {size : Nat} (hm : ∀ k i, (mk k i).length = size) (k n : Nat) : (mks mk k n).length = n * size := by
  induction n with
  | zero => simp [mks]
  | succ n ih => rw [mks_succ, List.length_append, ih, hm, Nat.succ_mul]
theorem mks_take {mk : Nat → Nat → List Value} {size : Nat} (hm : ∀ k i, (mk k i).length = size) (k n i : Nat) (h : i ≤ n) : (mks mk k n).take (i * size) = mks mk k i := by
  induction n with
  | zero => have : i = 0 := by omega
            subst this; simp [mks]
  | succ n ih =>
    rcases Nat.lt_or_ge i (n + 1) with h' | h'
    · have hle : i * size ≤ n * size := Nat.mul_le_mul_right _ (by omega)
      rw [mks_succ, List.take_append_of_le_length (by rw [mks_len hm]; exact hle)]
      exact ih (by omega)
    · have : i = n + 1 := by omega
      subst this
      rw [List.take_of_length_le (by rw [mks_len hm]; omega)]
theorem mks_get {mk : Nat → Nat → List Value} {size : Nat} (hm : ∀ k i, (mk k i).length = size) (k n i j : Nat) (h : i < n) (hj : j < size) : (mks mk k n)[i * size + j]? = (mk k i)[j]? := by
  have h1 := mks_take hm k n (i + 1) (by omega)
  have hlt : i * size + j < (i + 1) * size := by rw [Nat.succ_mul]; omega
  have h2 : ((mks mk k n).take ((i + 1) * size))[i * size + j]? = (mks mk k n)[i * size + j]? := by rw [List.getElem?_take, if_pos hlt]
  rw [← h2, h1, mks_succ, List.getElem?_append_right (by rw [mks_len hm]; omega), mks_len hm]
  congr 1
  omega

/-- What a list has grown into: m elements with the cells xs; it lies where the list lies, or in a block from N on that is not G. -/
structure GRow (w : World) (e : TypeId) (size : Nat) (N G : Nat) (x : Fs) (u : Value) (gb m : Nat) (xs : List Value) : Prop where
  row : Row w e size u gb m xs
  own : u.ownBlock = some gb
  lt : gb < w.heap.size
  at_ : (gb = x.b ∧ x.v.ownBlock = some x.b) ∨ (N ≤ gb ∧ gb ≠ G)
theorem GRow.keep {w w' : World} {e : TypeId} {size N G : Nat} {x : Fs} {u : Value} {gb m : Nat} {xs : List Value} (h : GRow w e size N G x u gb m xs) (hs : w.heap.size ≤ w'.heap.size) (hk : w'.heap[gb]? = w.heap[gb]?) : GRow w' e size N G x u gb m xs :=
  ⟨h.row.keep (fun _ => hk), h.own, Nat.lt_of_lt_of_le h.lt hs, h.at_⟩
/-- While a list grows: i elements more. wo: the world in which that began. -/
structure Inn (wo w : World) (e : TypeId) (size : Nat) (x : Fs) (u : Value) (gb i : Nat) (xs : List Value) : Prop where
  row : Row w e size u gb (x.n + i) xs
  at_ : (gb = x.b ∧ i = 0 ∧ u = x.v) ∨ (gb = x.b ∧ ∃ cap, x.v = .slice (some ⟨x.b, 0, none⟩) x.n cap ∧ u = .slice (some ⟨x.b, 0, none⟩) (x.n + i) cap) ∨ (wo.heap.size ≤ gb ∧ gb < w.heap.size ∧ u.ownBlock = some gb)
  ag : Ag (fun b => ¬ (b = x.b ∧ x.v.ownBlock = some x.b)) wo w
theorem Inn.start {w : World} {e : TypeId} {size : Nat} {S : Nat → Prop} {ls : List Fs} {C : Nat → List Value} {k : Nat} {x : Fs} (h : Fl w e size S ls C) (hx : ls[k]? = some x) : Inn w w e size x x.v x.b 0 (C k) :=
  ⟨h.row k x hx, .inl ⟨rfl, rfl, rfl⟩, Ag.refl _ _⟩
/-- One append more, of m elements. -/
theorem Inn.step {wo wr wa w3 : World} {e : TypeId} {size : Nat} {S : Nat → Prop} {ls : List Fs} {C : Nat → List Value} {k : Nat} {x : Fs} {u v' : Value} {gb g' i m : Nat} {xs ys : List Value}
    (hFo : Fl wo e size S ls C) (hF : Fl wr e size S ls C) (hx : ls[k]? = some x) (hI : Inn wo wr e size x u gb i xs) (hb : Below wr.heap.size wr wa)
    (hrow : Row w3 e size v' g' (x.n + i + m) ys) (hg : Grew wa w3 e size u v' gb g' (x.n + i) m) :
    Inn wo w3 e size x v' g' (i + m) ys ∧ Fl w3 e size S ls C := by
  have hos := hI.ag.size
  have has := hb.size
  have hgs := hg.gr.size
  have hxo : ∀ q, x.v.ownBlock = some q → x.v.ownBlock = some x.b := fun q hq => own_of_row (hF.row k x hx) hq
  have hub : ∀ q, u.ownBlock = some q → q = gb := by
    intro q hq
    have := own_of_row hI.row hq
    rw [this] at hq; injection hq with hq; exact hq.symm
  have hcase : ∀ q, u.ownBlock = some q → (q = x.b ∧ x.v.ownBlock = some x.b) ∨ wo.heap.size ≤ q := by
    intro q hq
    have hqg := hub q hq
    subst hqg
    rcases hI.at_ with ⟨h1, h2, h3⟩ | ⟨h1, cap, h2, h3⟩ | ⟨h1, h2, h3⟩
    · exact .inl ⟨h1, hxo q (by rw [← h3]; exact hq)⟩
    · exact .inl ⟨h1, by rw [h2]; rfl⟩
    · exact .inr h1
  have hag3 : Ag (fun b => ¬ (b = x.b ∧ x.v.ownBlock = some x.b)) wo w3 := (hI.ag.trans (Ag.of_below _ hb)).grown hg.gr (fun r hr hlt => by
    rcases hcase r hr with h | h
    · exact fun hn => hn h
    · omega)
  refine ⟨⟨by rw [← Nat.add_assoc]; exact hrow, ?_, hag3⟩, ?_⟩
  · rcases hg.how with ⟨h1, h2⟩ | ⟨h1, cap, h2, h3, h4⟩
    · exact .inr (.inr ⟨by omega, hg.lt, hg.own⟩)
    · rcases hI.at_ with ⟨e1, e2, e3⟩ | ⟨e1, cap', e2, e3⟩ | ⟨e1, e2, e3⟩
      · subst e2
        rw [e1] at h1 h2 h3
        exact .inr (.inl ⟨h1, cap, by rw [← e3, h2]; rfl, by rw [h3, Nat.add_assoc]⟩)
      · rw [e1] at h1 h2 h3
        rw [h2] at e3
        injection e3 with _ _ e3
        subst e3
        exact .inr (.inl ⟨h1, cap, e2, by rw [h3, Nat.add_assoc]⟩)
      · exact .inr (.inr ⟨by omega, hg.lt, hg.own⟩)
  · have hFa := hF.below hb
    refine ⟨fun q y hy => ?_, fun q y hy e => let ⟨h1, h2⟩ := hFa.own q y hy e; ⟨h1, by omega⟩, hF.dis⟩
    have hyo := hFo.own q y hy
    by_cases hqk : q = k
    · subst hqk
      have : y = x := by rw [hx] at hy; injection hy with hy; exact hy.symm
      subst this
      rcases hg.how with ⟨h1, h2⟩ | ⟨h1, cap, h2, h3, h4⟩
      · exact (hFa.row q y hy).keep (fun e => h2 _ (by have := (hyo e).2; omega))
      · rcases hI.at_ with ⟨e1, e2, e3⟩ | ⟨e1, cap', e2, e3⟩ | ⟨e1, e2, e3⟩
        · rw [e1] at h2 h4
          have hr := hFa.row q y hy
          have hv : y.v = .slice (some ⟨y.b, 0, none⟩) y.n cap := by rw [← e3, h2, e2]; rfl
          rw [hv] at hr ⊢
          exact h4 _ _ (by omega) hr
        · rw [e1] at h2 h4
          have hr := hFa.row q y hy
          rw [e3] at h2
          injection h2 with _ _ h2
          subst h2
          rw [e2] at hr ⊢
          exact h4 _ _ (by omega) hr
        · refine (hFa.row q y hy).keep (fun e => hg.gr.block _ (by have := (hyo e).2; omega) (fun e' => ?_))
          have := hub _ e'.symm
          have := (hyo e).2
          omega
    · refine (hFa.row q y hy).keep (fun e => hg.gr.block _ (by have := (hyo e).2; omega) (fun e' => ?_))
      rcases hcase _ e'.symm with ⟨h1, h2⟩ | h1
      · exact hF.dis q k y x hy hx hqk e h2 h1
      · have := (hyo e).2
        omega
/-- Grown, a list lies where it lay, or in a new block. -/
theorem Inn.done {wo wr : World} {e : TypeId} {size N G : Nat} {x : Fs} {u : Value} {gb i : Nat} {xs : List Value} (hI : Inn wo wr e size x u gb i xs) (hi : 0 < i) (hx : x.v.ownBlock = some x.b → x.b < wr.heap.size) (hN : N ≤ wo.heap.size) (hG : G < wo.heap.size) : GRow wr e size N G x u gb (x.n + i) xs := by
  rcases hI.at_ with ⟨h1, h2, h3⟩ | ⟨h1, cap, h2, h3⟩ | ⟨h1, h2, h3⟩
  · omega
  · subst h1
    have hv : x.v.ownBlock = some x.b := by rw [h2]; rfl
    exact ⟨hI.row, by rw [h3]; rfl, hx hv, .inl ⟨rfl, hv⟩⟩
  · exact ⟨hI.row, h3, h2, .inr ⟨by omega, by omega⟩⟩
/-- What others have grown into stays. -/
theorem GRow.other {wo w' : World} {e : TypeId} {size N G : Nat} {S : Nat → Prop} {ls : List Fs} {C : Nat → List Value} {k j : Nat} {x y : Fs} {u : Value} {gb m : Nat} {xs : List Value} (h : GRow wo e size N G y u gb m xs) (hF : Fl wo e size S ls C) (hS : ∀ b, S b → b < N) (hx : ls[k]? = some x) (hy : ls[j]? = some y) (hne : j ≠ k)
    (hag : Ag (fun b => ¬ (b = x.b ∧ x.v.ownBlock = some x.b)) wo w') : GRow w' e size N G y u gb m xs := by
  refine h.keep hag.size (hag.block gb h.lt (fun ⟨h1, h2⟩ => ?_))
  rcases h.at_ with ⟨h3, h4⟩ | ⟨h3, h4⟩
  · exact hF.dis j k y x hy hx hne h4 h2 (by omega)
  · have := hS _ (hF.own k x hx h2).1
    omega
end Go.Proofs.YtjebjninlejoeaaGreatDoor
namespace Go.Proofs.YtjebjninlejoeaaGreatDoor
open Go.RowKit
set_option linter.unusedVariables false
set_option maxRecDepth 100000

/-- These values are stored from cell j of block b on. -/
def sets (w : World) (b : Nat) : Nat → List Value → World
  | _, [] => w
  | j, u :: us => sets (w.setCell ⟨b, j, none⟩ u) b (j + 1) us
def setsL (l : List Value) : Nat → List Value → List Value
  | _, [] => l
  | j, u :: us => setsL (l.set j u) (j + 1) us
theorem setsL_len (us : List Value) : ∀ (l : List Value) (j : Nat), (setsL l j us).length = l.length := by
  induction us with
  | nil => intro l j; rfl
  | cons u us ih => intro l j; rw [setsL, ih]; simp
theorem setsL_take (us : List Value) : ∀ (l : List Value) (j : Nat), j + us.length ≤ l.length → (setsL l j us).take (j + us.length) = l.take j ++ us := by
  induction us with
  | nil => intro l j _; simp [setsL]
  | cons u us ih =>
    intro l j h
    simp only [List.length_cons] at h
    have h1 : j + (u :: us).length = j + 1 + us.length := by simp; omega
    rw [setsL, h1, ih _ _ (by simp; omega)]
    have h2 : j < l.length := by omega
    have h3 : (l.set j u).take (j + 1) = l.take j ++ [u] := by
      rw [List.take_add_one, List.take_set_of_le (by omega)]
      simp [h2]
    rw [h3]
    simp
theorem sets_size (us : List Value) : ∀ (w : World) (b j : Nat), (sets w b j us).heap.size = w.heap.size := by
  induction us with
  | nil => intro w b j; rfl
  | cons u us ih => intro w b j; rw [sets, ih]; simp [World.setCell]
theorem sets_ag (K : Nat → Prop) (us : List Value) : ∀ (w0 w : World) (b j : Nat), Ag K w0 w → (b < w0.heap.size → ¬ K b) → Ag K w0 (sets w b j us) := by
  induction us with
  | nil => intro w0 w b j h _; exact h
  | cons u us ih => intro w0 w b j h hb; rw [sets]; exact ih _ _ _ _ (h.setCell hb u) hb
/-- .. of list k. -/
def updL (C : Nat → List Value) (k j : Nat) (us : List Value) : Nat → List Value := fun q => if q = k then setsL (C k) j us else C q
theorem Fl.sets {e : TypeId} {size : Nat} {S : Nat → Prop} {ls : List Fs} {k : Nat} {x : Fs} (hx : ls[k]? = some x) (us : List Value) : ∀ (w : World) (C : Nat → List Value) (j : Nat), Fl w e size S ls C → j + us.length ≤ x.n * size →
    Fl (sets w x.b j us) e size S ls (updL C k j us) := by
  induction us with
  | nil => intro w C j h _; exact h.eq (fun q y _ => by unfold updL setsL; split <;> simp_all)
  | cons u us ih =>
    intro w C j h hj
    simp only [List.length_cons] at hj
    rw [Go.Proofs.YtjebjninlejoeaaGreatDoor.sets]
    refine (ih _ _ (j + 1) (h.set hx j u (by omega)) (by omega)).eq (fun q y _ => ?_)
    unfold updL updC
    by_cases hq : q = k
    · simp only [hq, if_true]; rfl
    · simp [hq]

/-- What each list has when it is marked. -/
def mksOf (mk : Nat → Nat → List Value) (ls : List Fs) (q : Nat) : List Value := match ls[q]? with | some x => mks mk q x.n | none => []
theorem mksOf_at {mk : Nat → Nat → List Value} {ls : List Fs} {q : Nat} {x : Fs} (h : ls[q]? = some x) : mksOf mk ls q = mks mk q x.n := by unfold mksOf; rw [h]
/-- Lists are marked up to the j-th element of list k. -/
def Ph1 (mk : Nat → Nat → List Value) (e : TypeId) (size : Nat) (S : Nat → Prop) (ls : List Fs) (w : World) (k j : Nat) (wr : World) : Prop :=
  ∃ C : Nat → List Value, Fl wr e size S ls C ∧ (∀ (q : Nat) (x : Fs), q < k → ls[q]? = some x → C q = mks mk q x.n) ∧ (C k).take (j * size) = mks mk k j ∧ Ag (fun b => ¬ S b) w wr
section
variable {mk : Nat → Nat → List Value} {e : TypeId} {size : Nat} {S : Nat → Prop} {ls : List Fs} {w wr : World}
theorem Ph1.start {C : Nat → List Value} (h : Fl w e size S ls C) : Ph1 mk e size S ls w 0 0 w := ⟨C, h, fun q x hq => absurd hq (by omega), by simp [mks], Ag.refl _ _⟩
theorem Ph1.next {k : Nat} {x : Fs} (h : Ph1 mk e size S ls w k x.n wr) (hx : ls[k]? = some x) : Ph1 mk e size S ls w (k + 1) 0 wr := by
  obtain ⟨C, h1, h2, h3, h4⟩ := h
  refine ⟨C, h1, fun q y hq hy => ?_, by simp [mks], h4⟩
  by_cases hqk : q = k
  · subst hqk
    have : y = x := by rw [hx] at hy; injection hy with hy; exact hy.symm
    subst this
    rw [← h3, List.take_of_length_le (by rw [(h1.row q y hy).1]; omega)]
  · exact h2 q y (by omega) hy
theorem Ph1.done {j : Nat} (h : Ph1 mk e size S ls w ls.length j wr) : Fl wr e size S ls (mksOf mk ls) ∧ Ag (fun b => ¬ S b) w wr := by
  obtain ⟨C, h1, h2, h3, h4⟩ := h
  exact ⟨h1.eq (fun q y hy => by rw [mksOf_at hy]; exact h2 q y (List.getElem?_eq_some_iff.1 hy).1 hy), h4⟩
theorem Ph1.shape {k j : Nat} {x : Fs} (h : Ph1 mk e size S ls w k j wr) (hx : ls[k]? = some x) : ∃ A c, x.v = .slice A x.n c ∧ x.n ≤ c ∧ c ≤ maxLen ∧ (0 < x.n → A = some ⟨x.b, 0, none⟩) := by
  obtain ⟨C, h1, _⟩ := h
  exact (h1.row k x hx).shape
theorem Row.bk {v : Value} {g n : Nat} {xs : List Value} (h : Row w e size v g n xs) (hn : 0 < n) : ∃ cur, w.heap[g]? = some (.cells cur e (0, 0)) ∧ cur.toList.take (n * size) = xs := by
  rcases h.2 with ⟨_, h0⟩ | ⟨cap, cur, _, hg, _, _, h3, _⟩
  · omega
  · exact ⟨cur, hg, h3⟩
theorem Row.get {v : Value} {g n : Nat} {xs : List Value} (h : Row w e size v g n xs) {i : Nat} (hi : i < n * size) : w.cell? ⟨g, i, none⟩ = xs[i]? ∧ w.frozen? ⟨g, i, none⟩ = false := by
  have hn : 0 < n := by rcases Nat.eq_zero_or_pos n with h0 | h0; (rw [h0] at hi; simp at hi); exact h0
  obtain ⟨cur, hg, h3⟩ := h.bk hn
  refine ⟨?_, frozen_blk hg i⟩
  rw [cell_of_row w g i cur e (0, 0) hg, ← h3, List.getElem?_take, if_pos hi]
  simp
theorem Row.some_ {v : Value} {g n : Nat} {xs : List Value} (h : Row w e size v g n xs) {i : Nat} (hi : i < n * size) : ∃ u, w.cell? ⟨g, i, none⟩ = some u := by
  rw [(h.get hi).1]
  exact ⟨_, List.getElem?_eq_getElem (by rw [h.1]; exact hi)⟩
theorem Ph1.cells {k j : Nat} {x : Fs} (h : Ph1 mk e size S ls w k j wr) (hx : ls[k]? = some x) {i : Nat} (hi : i < x.n * size) : (∃ u, wr.cell? ⟨x.b, i, none⟩ = some u) ∧ wr.frozen? ⟨x.b, i, none⟩ = false := by
  obtain ⟨C, h1, _⟩ := h
  exact ⟨(h1.row k x hx).some_ hi, ((h1.row k x hx).get hi).2⟩
theorem Fl.xb {C : Nat → List Value} (h : Fl wr e size S ls C) {k : Nat} {x : Fs} (hx : ls[k]? = some x) (hn : 0 < x.n) : x.v.ownBlock = some x.b := by
  rcases (h.row k x hx).2 with ⟨_, h0⟩ | ⟨cap, cur, e1, _⟩
  · omega
  · rw [e1]; rfl
theorem Ph1.step (hm : ∀ k i, (mk k i).length = size) {k j : Nat} {x : Fs} (h : Ph1 mk e size S ls w k j wr) (hS : ∀ b, S b → b < w.heap.size) (hx : ls[k]? = some x) (hj : j < x.n) : Ph1 mk e size S ls w k (j + 1) (sets wr x.b (j * size) (mk k j)) := by
  obtain ⟨C, h1, h2, h3, h4⟩ := h
  have hle : (j + 1) * size ≤ x.n * size := Nat.mul_le_mul_right _ hj
  rw [Nat.succ_mul] at hle
  refine ⟨_, Fl.sets hx (mk k j) wr C (j * size) h1 (by rw [hm]; exact hle), fun q y hq hy => ?_, ?_, sets_ag _ _ _ _ _ _ h4 (fun _ hn => hn (h1.own k x hx (h1.xb hx (by omega))).1)⟩
  · unfold updL
    rw [if_neg (by omega)]
    exact h2 q y hq hy
  · unfold updL
    rw [if_pos rfl, mks_succ, ← h3]
    have := setsL_take (mk k j) (C k) (j * size) (by rw [hm, (h1.row k x hx).1]; exact hle)
    rw [hm] at this
    rw [Nat.succ_mul]
    exact this
theorem Ph1.below {wr' : World} {k j : Nat} (h : Ph1 mk e size S ls w k j wr) (hb : Below wr.heap.size wr wr') : Ph1 mk e size S ls w k j wr' := by
  obtain ⟨C, h1, h2, h3, h4⟩ := h
  exact ⟨C, h1.below hb, h2, h3, h4.trans (Ag.of_below _ hb)⟩

/-- The lists' slices, which lie outside S. -/
structure Outer (w : World) (S : Nat → Prop) (A : Option Addr) (c : Nat) (ls : List Fs) : Prop where
  rd : Rd w (fun b => ¬ S b ∧ b < w.heap.size) A c (ls.map (·.v))
  le : ls.length ≤ c
  mx : c ≤ maxLen
theorem Outer.at_ {A : Option Addr} {c : Nat} (h : Outer w S A c ls) (ha : Ag (fun b => ¬ S b) w wr) {k : Nat} (hk : k < ls.length) : ∃ a x, A = some a ∧ Hid (ls[k]? = some x) ∧ wr.cell? (a.add k) = some x.v := by
  obtain ⟨a, e1, ⟨h1, h2⟩, h3⟩ := h.rd.2 (by intro e; have := congrArg List.length e; simp at this; rw [this] at hk; simp at hk)
  refine ⟨a, ls[k], e1, List.getElem?_eq_getElem hk, ?_⟩
  exact (World.cell?_of_block (by rw [add_blk]; exact ha.block _ h2 h1)).trans (h3 k _ (by simp [hk]))

theorem Ph1.ag {k j : Nat} (h : Ph1 mk e size S ls w k j wr) : Ag (fun b => ¬ S b) w wr := by
  obtain ⟨C, h1, h2, h3, h4⟩ := h
  exact h4
theorem Outer.list {A : Option Addr} {c : Nat} {C : Nat → List Value} (h : Outer w S A c ls) (ha : Ag (fun b => ¬ S b) w wr) (hF : Fl wr e size S ls C) {k : Nat} (hk : k < ls.length) :
    ∃ a x A' c', A = some a ∧ Hid (ls[k]? = some x) ∧ wr.cell? (a.add k) = some (.slice A' x.n c') ∧ x.n ≤ c' ∧ c' ≤ maxLen ∧ (0 < x.n → A' = some ⟨x.b, 0, none⟩) ∧ Hid (x.v = .slice A' x.n c') := by
  obtain ⟨a, x, e1, e2, e3⟩ := h.at_ ha hk
  obtain ⟨A', c', q1, q2, q3, q4⟩ := (hF.row k x e2).shape
  exact ⟨a, x, A', c', e1, e2, by rw [e3, q1], q2, q3, q4, q1⟩
theorem Ph1.list {A : Option Addr} {c k j : Nat} (hP : Ph1 mk e size S ls w k j wr) (h : Outer w S A c ls) (hk : k < ls.length) :
    ∃ a x A' c', A = some a ∧ Hid (ls[k]? = some x) ∧ wr.cell? (a.add k) = some (.slice A' x.n c') ∧ x.n ≤ c' ∧ c' ≤ maxLen ∧ (0 < x.n → A' = some ⟨x.b, 0, none⟩) ∧ Hid (x.v = .slice A' x.n c') := by
  obtain ⟨C, h1, h2, h3, h4⟩ := hP
  exact h.list h4 h1 hk

/-- Lists have grown up to list k: what they have grown into lies in block G; each has its marks, and X. -/
def Ph2 (mk : Nat → Nat → List Value) (e : TypeId) (size : Nat) (S : Nat → Prop) (ls : List Fs) (T : TypeId) (X : Nat → Fs → List Value) (w : World) (G k : Nat) (wr : World) : Prop :=
  Fl wr e size S ls (mksOf mk ls) ∧ Ag (fun b => ¬ S b) w wr ∧ ∃ us : List Value, us.length = ls.length ∧ Bk wr G T us ∧
    ∀ (j : Nat) (x : Fs), j < k → ls[j]? = some x → ∃ u gb, us[j]? = some u ∧ GRow wr e size w.heap.size G x u gb (x.n + 64) (X j x)
variable {T : TypeId} {X X' : Nat → Fs → List Value} {G k : Nat}
theorem Ph2.start {us : List Value} (h : Fl wr e size S ls (mksOf mk ls)) (ha : Ag (fun b => ¬ S b) w wr) (hu : us.length = ls.length) (hb : Bk wr G T us) : Ph2 mk e size S ls T X w G 0 wr :=
  ⟨h, ha, us, hu, hb, fun j x hj => absurd hj (by omega)⟩
theorem Ph2.again (h : Ph2 mk e size S ls T X w G k wr) : Ph2 mk e size S ls T X' w G 0 wr := by
  obtain ⟨h1, h2, us, h3, h4, _⟩ := h
  exact ⟨h1, h2, us, h3, h4, fun j x hj => absurd hj (by omega)⟩
theorem Ph2.below {wr' : World} (h : Ph2 mk e size S ls T X w G k wr) (hb : Below wr.heap.size wr wr') : Ph2 mk e size S ls T X w G k wr' := by
  obtain ⟨h1, h2, us, h3, h4, h5⟩ := h
  refine ⟨h1.below hb, h2.trans (Ag.of_below _ hb), us, h3, (hb.block G h4.lt).trans h4, fun j x hj hx => ?_⟩
  obtain ⟨u, gb, e1, e2⟩ := h5 j x hj hx
  exact ⟨u, gb, e1, e2.keep hb.size (hb.block gb e2.lt)⟩
theorem Ph2.list {A : Option Addr} {c q : Nat} (hP : Ph2 mk e size S ls T X w G k wr) (h : Outer w S A c ls) (hk : q < ls.length) :
    ∃ a x A' c', A = some a ∧ Hid (ls[q]? = some x) ∧ wr.cell? (a.add q) = some (.slice A' x.n c') ∧ x.n ≤ c' ∧ c' ≤ maxLen ∧ (0 < x.n → A' = some ⟨x.b, 0, none⟩) ∧ Hid (x.v = .slice A' x.n c') := by
  obtain ⟨h1, h2, _⟩ := hP
  exact h.list h2 h1 hk
theorem Ph2.g (h : Ph2 mk e size S ls T X w G k wr) : G < wr.heap.size := by
  obtain ⟨_, _, us, _, h4, _⟩ := h
  exact h4.lt
/-- One list more has grown. -/
theorem Ph2.step {wo w3 : World} {x : Fs} {u : Value} {gb i : Nat} {xs : List Value} (h : Ph2 mk e size S ls T X w G k wo) (hG : w.heap.size ≤ G) (hS : ∀ b, S b → b < w.heap.size) (hx : ls[k]? = some x) (hI : Inn wo w3 e size x u gb i xs) (hF : Fl w3 e size S ls (mksOf mk ls)) (hi : i = 64) (hX : xs = X k x) :
    Ph2 mk e size S ls T X w G (k + 1) (w3.setCell ⟨G, k, none⟩ u) := by
  subst hi hX
  obtain ⟨h1, h2, us, h3, h4, h5⟩ := h
  have hkl := (List.getElem?_eq_some_iff.1 hx).1
  have hSG : ∀ b, S b → b ≠ G := fun b hb => by have := hS b hb; omega
  have hGk : w3.heap[G]? = wo.heap[G]? := hI.ag.block G h4.lt (fun ⟨e1, e2⟩ => hSG _ (h1.own k x hx e2).1 e1.symm)
  have h4' : Bk w3 G T us := hGk.trans h4
  have hsz : (w3.setCell ⟨G, k, none⟩ u).heap.size = w3.heap.size := by simp [World.setCell]
  have hN : w.heap.size ≤ wo.heap.size := h2.size
  have hag3 : Ag (fun b => ¬ S b) w w3 := h2.trans (hI.ag.mono (fun b _ hb ⟨e1, e2⟩ => hb (by rw [e1]; exact (h1.own k x hx e2).1)))
  refine ⟨hF.keep (fun b hb _ => Below.heap_setCell _ _ _ _ (hSG b hb)) (by omega), hag3.setCell (fun h => by simp only [] at h; omega) _, us.set k u, by simpa using h3, h4'.set k u, fun j y hj hy => ?_⟩
  by_cases hjk : j = k
  · subst hjk
    have : y = x := by rw [hx] at hy; injection hy with hy; exact hy.symm
    subst this
    have hd := hI.done (N := w.heap.size) (G := G) (by omega) (fun e => (hF.own j y hy e).2) hN h4.lt
    refine ⟨u, gb, by simp [h3, hkl], hd.keep (by omega) (Below.heap_setCell _ _ _ _ ?_)⟩
    show gb ≠ G
    rcases hd.at_ with ⟨e1, e2⟩ | ⟨_, e2⟩
    · rw [e1]; exact hSG _ (hF.own j y hy e2).1
    · exact e2
  · obtain ⟨v, gv, e1, e2⟩ := h5 j y (by omega) hy
    have e3 := e2.other h1 hS hx hy hjk hI.ag
    refine ⟨v, gv, by rw [List.getElem?_set_ne (fun h => hjk h.symm)]; exact e1, e3.keep (by omega) (Below.heap_setCell _ _ _ _ ?_)⟩
    show gv ≠ G
    rcases e3.at_ with ⟨q1, q2⟩ | ⟨_, q2⟩
    · rw [q1]; exact hSG _ (h1.own j y hy q2).1
    · exact q2
/-- What is read of a list and of what it has grown into. -/
theorem Ph2.at_ {j : Nat} {x : Fs} (h : Ph2 mk e size S ls T X w G k wr) (hj : j < k) (hx : ls[j]? = some x) : ∃ gb cap, wr.cell? ⟨G, j, none⟩ = some (.slice (some ⟨gb, 0, none⟩) (x.n + 64) cap) ∧ x.n + 64 ≤ cap ∧ cap ≤ maxLen ∧
    (∀ i, i < (x.n + 64) * size → wr.cell? ⟨gb, i, none⟩ = (X j x)[i]?) ∧ ∀ i, i < x.n * size → wr.cell? ⟨x.b, i, none⟩ = (mks mk j x.n)[i]? := by
  obtain ⟨h1, h2, us, h3, h4, h5⟩ := h
  obtain ⟨u, gb, e1, e2⟩ := h5 j x hj hx
  obtain ⟨A, c, q1, q2, q3, q4⟩ := e2.row.shape
  have := q4 (by omega)
  subst this
  refine ⟨gb, c, by rw [h4.cell, e1, q1], q2, q3, fun i hi => (e2.row.get hi).1, fun i hi => ?_⟩
  rw [((h1.row j x hx).get hi).1, mksOf_at hx]
end
theorem below_drewN (w : World) (n : Nat) : Below w.heap.size w (w.drewN n) := ⟨rfl, rfl, rfl, Nat.le_refl _, fun _ _ => rfl⟩
theorem Ph2.gcell {mk : Nat → Nat → List Value} {e : TypeId} {size : Nat} {S : Nat → Prop} {ls : List Fs} {T : TypeId} {X : Nat → Fs → List Value} {w wo w3 : World} {G k q : Nat} {x : Fs} {u : Value} {gb i : Nat} {xs : List Value}
    (h : Ph2 mk e size S ls T X w G k wo) (hG : w.heap.size ≤ G) (hS : ∀ b, S b → b < w.heap.size) (hx : ls[q]? = some x) (hI : Inn wo w3 e size x u gb i xs) : (∃ u, w3.cell? ⟨G, q, none⟩ = some u) ∧ w3.frozen? ⟨G, q, none⟩ = false := by
  obtain ⟨h1, h2, us, h3, h4, h5⟩ := h
  have hGk : w3.heap[G]? = wo.heap[G]? := hI.ag.block G h4.lt (fun ⟨e1, e2⟩ => by have := hS _ (h1.own q x hx e2).1; omega)
  have h4' : Bk w3 G T us := hGk.trans h4
  have := (List.getElem?_eq_some_iff.1 hx).1
  exact ⟨⟨_, by rw [h4'.cell]; exact List.getElem?_eq_getElem (by omega)⟩, frozen_blk h4' q⟩
theorem Inn.lt {wo wr : World} {e : TypeId} {size : Nat} {S : Nat → Prop} {ls : List Fs} {C : Nat → List Value} {k : Nat} {x : Fs} {u : Value} {gb i : Nat} {xs : List Value} (hI : Inn wo wr e size x u gb i xs) (hF : Fl wr e size S ls C) (hx : ls[k]? = some x) (hu : u.ownBlock = some gb) : gb < wr.heap.size := by
  rcases hI.at_ with ⟨h1, h2, h3⟩ | ⟨h1, cap, h2, h3⟩ | ⟨h1, h2, h3⟩
  · rw [h1]; exact (hF.own k x hx (by rw [← h3, ← h1]; exact hu)).2
  · rw [h1]; exact (hF.own k x hx (by rw [h2]; rfl)).2
  · exact h2
theorem still_of {P : Program} {f : FuncId} {args : Array Value} {w : World} {v : Value} (h : Calls P f args w fun e w' => e = .returned v ∧ w = w') : Calls P f args w fun e w'' => e = .returned v ∧ w'' = w :=
  h.mono fun _ _ h => ⟨h.1, h.2.symm⟩
end Go.Proofs.YtjebjninlejoeaaGreatDoor
