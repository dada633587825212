/- raft, the law's world: move: a clock's tick. raft, the law's world: move: a server starts anew; no letter is on its way. raft, the law's world: move: a letter comes, or is lost. -/
import Derived.Test.YthfofnfkopnbhaaA9
import Derived.BigQuiet
import Derived.Deep.DeepCutAuto
import Derived.StillTailTactics
import Derived.BigRegion
import Derived.Deep.RegionHeld3
import Derived.Test.YthfofnfkopnbhaaZD
import Derived.Test.YthfofnfkopnbhaaZA
namespace Go.Proofs.Ythfofnfkopnbhaa
open Go.RowKit Go.Maps Go.ChangeMaps
set_option linter.unusedVariables false
set_option linter.unusedSimpArgs false
set_option linter.unusedSectionVars false
set_option maxRecDepth 100000

/-- What Pick tells. -/
def pickV (a m : Int) : Int := if a.tmod m < 0 then a.tmod m + m else a.tmod m
theorem pickV_in (a : Int) {m : Int} (h : 1 ≤ m) : 0 ≤ pickV a m ∧ pickV a m < m := by
  have h1 := Int.tmod_lt_of_pos a (show 0 < m by omega)
  have h2 : -m < a.tmod m := by
    have h3 := Int.natAbs_tmod a m
    have h4 := Nat.mod_lt a.natAbs (show 0 < m.natAbs by omega)
    omega
  unfold pickV
  split <;> omega
theorem pick_is (a m : Int) (w : World) (h : 1 ≤ m) (hm : m ≤ 1000000) : Calls Try.prog 7 #[.int .i64 a, .int .i64 m] w fun e w' => e = .returned (.int .i64 (pickV a m)) ∧ w' = w := by
  have d1 : decide (m < 1) = false := decide_eq_false (by omega)
  have hm0 : ¬ m = 0 := by omega
  have h1 := Int.tmod_lt_of_pos a (show 0 < m by omega)
  have h2 : -m < a.tmod m := by
    have h3 := Int.natAbs_tmod a m
    have h4 := Nat.mod_lt a.natAbs (show 0 < m.natAbs by omega)
    omega
  by_cases hn : a.tmod m < 0
  · have d2 : decide (a.tmod m < 0) = true := decide_eq_true hn
    have HP := Lib.hid (show pickV a m = a.tmod m + m from if_pos hn)
    go_enter Try.func7, Try.ntmps7
    go_wp2_with fail
    go_ret
    exact ⟨by rw [HP.out]; rfl, rfl⟩
  · have d2 : decide (a.tmod m < 0) = false := decide_eq_false hn
    have HP := Lib.hid (show pickV a m = a.tmod m from if_neg hn)
    go_enter Try.func7, Try.ntmps7
    go_wp2_with fail
    go_ret
    exact ⟨by rw [HP.out]; rfl, rfl⟩
/-- What a move leaves. -/
def MvPost (n j : Nat) (tg : Nat → Int) (y : Ly) (k : Kp) (w w' : World) : Prop :=
  ∃ (tg' : Nat → Int) (y' : Ly) (prs' : Int → Pr En) (k' : Kp), WmAt w' n tg' y' prs' k' ∧ RW n (j + 1) prs' k' ∧ Goes tg tg' w w' ∧ y'.WB = y.WB ∧ k'.net.length ≤ k.net.length + 100
/-- What a move is given. -/
def mvV (mk ms mn : Int) : Value := .agg #[.int .i64 mk, .int .i64 ms, .int .i64 mn]
section
variable {w w' : World} {n j : Nat} {tg : Nat → Int} {y : Ly} {prs : Int → Pr En} {k : Kp} {mk ms mn : Int}
set_option maxHeartbeats 4000000 in
theorem move_tick (h : WmAt w n tg y prs k) (hr : RW n j prs k) (hj : j ≤ 400) (hnl : k.net.length ≤ 400) (hq : pickV mk 12 ≤ 2) :
    Calls Try.prog 8 #[.pointer (some ⟨y.WB, 0, none⟩), mvV mk ms mn] w fun e w' => e = .returned (.bool true) ∧ MvPost n j tg y k w w' := by
  obtain ⟨w1, hw1⟩ : ∃ w1, w1 = w.alloc (.cells #[.int .i64 mk, .int .i64 ms, .int .i64 mn] 29) := ⟨_, rfl⟩
  have hmb : Bk w1 w.heap.size 29 [.int .i64 mk, .int .i64 ms, .int .i64 mn] := by rw [hw1]; exact Bk.new w _ _
  have hb1 : Below w.heap.size w w1 := by rw [hw1]; exact (Below.refl _ _).alloc (Nat.le_refl _) _
  have hW1 := h.below (fun h => h) hb1
  have hMB : tg w.heap.size = 0 := Classical.byContradiction fun e => by have := h.lt _ e; omega
  have hn1 := h.n1
  have hn7 := h.n7
  obtain ⟨hp1, hp2⟩ := pickV_in ms (show (1 : Int) ≤ (n : Int) by omega)
  obtain ⟨s0, hs0⟩ : ∃ s0 : Nat, pickV ms n = s0 := ⟨(pickV ms n).toNat, by omega⟩
  have hs0n : s0 < n := by omega
  have hPk1 : ∀ q, Calls Try.prog 7 #[.int .i64 ms, .int .i64 n] (w1.drewN q) fun e w' => e = .returned (.int .i64 s0) ∧ w' = w1.drewN q := fun q => by rw [← hs0]; exact pick_is ms n _ (by omega) (by omega)
  obtain ⟨q0, hq0⟩ : ∃ q0, pickV mk 12 = q0 := ⟨_, rfl⟩
  have hPk2 : ∀ W, Calls Try.prog 7 #[.int .i64 mk, .int .i64 12] W fun e w' => e = .returned (.int .i64 q0) ∧ W = w' := fun W => by rw [← hq0]; exact (pick_is mk 12 _ (by decide) (by decide)).mono (fun e w' h => ⟨h.1, h.2.symm⟩)
  have hq1 := pickV_in mk (show (1 : Int) ≤ 12 by decide)
  rw [hq0] at hq1 hq
  obtain ⟨b0, b1, b2, b3, b4, b5, b6, b7⟩ := hW1.cells
  have m0 : w1.cell? ⟨w.heap.size, 0, none⟩ = some (.int .i64 mk) := hmb.cell 0
  have m1 : w1.cell? ⟨w.heap.size, 1, none⟩ = some (.int .i64 ms) := hmb.cell 1
  have m2 : w1.cell? ⟨w.heap.size, 2, none⟩ = some (.int .i64 mn) := hmb.cell 2
  have HW1 := Lib.hid hW1
  have HMB := Lib.hid hmb
  have HB1 := Lib.hid hb1
  have HTM := Lib.hid hMB
  have HR := Lib.hid hr
  clear h hmb hb1 hW1 hMB hp1 hp2 hs0 hq0 hr
  go_enter Try.func8, Try.ntmps8
  unfold mvV
  go_upto_region 1 with (fail)
  rw [← hw1]
  clear hw1
  go_quiet ((go_at_call 7; exact Calls.quiet_of_same (hPk1 _)))
  rw [show (1 : Int) + (s0 : Int) = ((s0 + 1 : Nat) : Int) by omega]
  obtain ⟨s, hs⟩ : ∃ s, s0 + 1 = s := ⟨_, rfl⟩
  rw [hs]
  have h1 : 1 ≤ s := by omega
  have h2 : s ≤ n := by omega
  clear hs hs0n hPk1
  have hIn : In n (s : Int) := ⟨by omega, by omega⟩
  have HIn := Lib.hid hIn
  clear hIn
  go_upto_region 2 with (fail)
  have hb2 : Below w.heap.size w (w1.drewN nq) := HB1.out.trans ⟨rfl, rfl, rfl, Nat.le_refl _, fun _ _ => rfl⟩
  have hW2 : WmAt (w1.drewN nq) n tg y prs k := HW1.out.below (fun h => h) ⟨rfl, rfl, rfl, Nat.le_refl _, fun _ _ => rfl⟩
  have hM2 : Bk (w1.drewN nq) w.heap.size 29 [.int .i64 mk, .int .i64 ms, .int .i64 mn] := HMB.out
  clear b0 b1 b2 b3 b4 b5 b6 b7 m0 m1 m2
  generalize w1.drewN nq = w2 at *
  clear HW1 HMB HB1
  have HW2 := Lib.hid hW2
  have HM2 := Lib.hid hM2
  have HB2 := Lib.hid hb2
  obtain ⟨b0, b1, b2, b3, b4, b5, b6, b7⟩ := hW2.cells
  have m0 : w2.cell? ⟨w.heap.size, 0, none⟩ = some (.int .i64 mk) := hM2.cell 0
  have m1 : w2.cell? ⟨w.heap.size, 1, none⟩ = some (.int .i64 ms) := hM2.cell 1
  have m2 : w2.cell? ⟨w.heap.size, 2, none⟩ = some (.int .i64 mn) := hM2.cell 2
  have cp := (hW2.pk (fun h => h)).cell h1 h2 (fun h => h)
  clear hW2 hM2 hb2
  have d1 : decide (q0 ≤ 2) = true := decide_eq_true hq
  go_upto_region 4 with (go_at_call 7; (with_reducible refine (hPk2 _).mono ?_); rintro _ wx ⟨rfl, rfl⟩)
  have hpe : PeA w2.drew (y.P s) n s (y.m s) (fun _ => False) ⟨prs s, y.frm s, []⟩ := (HW2.out.pe s h1 h2 (fun h => h)).drew
  have hTick := tick_any mn hpe (HR.out.ok HIn.out (by omega) (by omega))
  have hstep := HR.out.tick HIn.out (by omega) hj (by omega) mn
  have HOK := Lib.hid hstep.1
  have HST := Lib.hid hstep.2.1
  have HLE := Lib.hid hstep.2.2
  obtain ⟨cT, hcT⟩ : ∃ cT, tickP En.term noopE n s mn ⟨prs s, 0, []⟩ = cT := ⟨_, rfl⟩
  rw [show (⟨(⟨prs s, y.frm s, []⟩ : Cs En).p, 0, []⟩ : Cs En) = ⟨prs s, 0, []⟩ from rfl] at hTick
  rw [hcT] at hTick HOK HST HLE
  have hWd := HW2.out.below (fun h => h) (below_drew _)
  have hMd : Bk w2.drew w.heap.size 29 [.int .i64 mk, .int .i64 ms, .int .i64 mn] := HM2.out
  have HMd := Lib.hid hMd
  have hS0 : w2.drew.cell? ⟨y.WB, 1, none⟩ = some (.slice (some ⟨y.pb, 0, none⟩) (n + 1) (n + 1)) ∧ w2.drew.cell? ⟨y.pb, s, none⟩ = some (.pointer (some ⟨y.P s, 0, none⟩)) ∧ w2.drew.cell? ⟨w.heap.size, 2, none⟩ = some (.int .i64 mn) := ⟨b1, cp, m2⟩
  have HWd := Lib.hid hWd
  clear hpe hstep hcT b0 b1 b2 b3 b4 b5 b6 b7 m0 m1 m2 cp
  refine wp_region_held_drew (S := fun w' => w'.cell? ⟨y.WB, 1, none⟩ = some (.slice (some ⟨y.pb, 0, none⟩) (n + 1) (n + 1)) ∧ w'.cell? ⟨y.pb, s, none⟩ = some (.pointer (some ⟨y.P s, 0, none⟩)) ∧ w'.cell? ⟨w.heap.size, 2, none⟩ = some (.int .i64 mn)) (by kernel_rfl) hS0 (fun hS => ?_)
  clear hS0
  refine wpAnyH_take (i := 0) (v := ?_) rfl (by kernel_rfl) (by kernel_rfl) (by kernel_rfl) (fun _ _ _ h => h) (Or.inl ⟨by rfl, ?_⟩) hS ?_
  rotate_left 1
  · intro w' hSw
    go_simp <;> with_reducible rfl
  try simp only [List.getElem_toArray, List.getElem_cons_zero, List.getElem_cons_succ, Act.put, List.setIfInBounds_toArray, List.set_cons_zero, List.set_cons_succ]
  refine wpAnyH_take (i := 1) (v := ?_) rfl (by kernel_rfl) (by kernel_rfl) (by kernel_rfl) (fun _ _ _ h => h) (Or.inl ⟨by rfl, ?_⟩) hS ?_
  rotate_left 1
  · intro w' hSw
    go_simp <;> with_reducible rfl
  try simp only [List.getElem_toArray, List.getElem_cons_zero, List.getElem_cons_succ, Act.put, List.setIfInBounds_toArray, List.set_cons_zero, List.set_cons_succ]
  refine wpAnyH_take (i := 2) (v := ?_) rfl (by kernel_rfl) (by kernel_rfl) (by kernel_rfl) (fun _ _ _ h => h) (Or.inl ⟨by rfl, ?_⟩) hS ?_
  rotate_left 1
  · intro w' hSw
    go_simp <;> with_reducible rfl
  try simp only [List.getElem_toArray, List.getElem_cons_zero, List.getElem_cons_succ, Act.put, List.setIfInBounds_toArray, List.set_cons_zero, List.set_cons_succ]
  refine wpAnyH_take (i := 3) (v := ?_) rfl (by kernel_rfl) (by kernel_rfl) (by kernel_rfl) (fun _ _ _ h => h) (Or.inl ⟨by rfl, ?_⟩) hS ?_
  rotate_left 1
  · intro w' hSw
    go_simp <;> with_reducible rfl
  try simp only [List.getElem_toArray, List.getElem_cons_zero, List.getElem_cons_succ, Act.put, List.setIfInBounds_toArray, List.set_cons_zero, List.set_cons_succ]
  refine wpAnyH_take (i := 4) (v := ?_) rfl (by kernel_rfl) (by kernel_rfl) (by kernel_rfl) (fun _ _ _ h => h) (Or.inl ⟨by rfl, ?_⟩) hS ?_
  rotate_left 1
  · intro w' hSw
    go_simp <;> with_reducible rfl
  try simp only [List.getElem_toArray, List.getElem_cons_zero, List.getElem_cons_succ, Act.put, List.setIfInBounds_toArray, List.set_cons_zero, List.set_cons_succ]
  refine wpAnyH_take (i := 5) (v := ?_) rfl (by kernel_rfl) (by kernel_rfl) (by kernel_rfl) (fun _ _ _ h => h) (Or.inl ⟨by rfl, ?_⟩) hS ?_
  rotate_left 1
  · intro w' hSw
    go_simp <;> with_reducible rfl
  try simp only [List.getElem_toArray, List.getElem_cons_zero, List.getElem_cons_succ, Act.put, List.setIfInBounds_toArray, List.set_cons_zero, List.set_cons_succ]
  refine wpAnyH_take (i := 6) (v := ?_) rfl (by kernel_rfl) (by kernel_rfl) (by kernel_rfl) (fun _ _ _ h => h) (Or.inl ⟨by rfl, ?_⟩) hS ?_
  rotate_left 1
  · intro w' hSw
    go_simp <;> with_reducible rfl
  try simp only [List.getElem_toArray, List.getElem_cons_zero, List.getElem_cons_succ, Act.put, List.setIfInBounds_toArray, List.set_cons_zero, List.set_cons_succ]
  refine wpAnyH_take (i := 7) (v := ?_) rfl (by kernel_rfl) (by kernel_rfl) (by kernel_rfl) (fun _ _ _ h => h) (Or.inl ⟨by rfl, ?_⟩) hS ?_
  rotate_left 1
  · intro w' hSw
    go_simp
    exact if_pos (show (s : Int) < (n : Int) + 1 by omega)
  try simp only [List.getElem_toArray, List.getElem_cons_zero, List.getElem_cons_succ, Act.put, List.setIfInBounds_toArray, List.set_cons_zero, List.set_cons_succ]
  refine wpAnyH_take (i := 8) (v := ?_) rfl (by kernel_rfl) (by kernel_rfl) (by kernel_rfl) (fun _ _ _ h => h) (Or.inl ⟨by rfl, ?_⟩) hS ?_
  rotate_left 1
  · intro w' hSw
    go_simp <;> with_reducible rfl
  try simp only [List.getElem_toArray, List.getElem_cons_zero, List.getElem_cons_succ, Act.put, List.setIfInBounds_toArray, List.set_cons_zero, List.set_cons_succ]
  refine wpAnyH_take (i := 9) (v := ?_) rfl (by kernel_rfl) (by kernel_rfl) (by kernel_rfl) (fun _ _ _ h => h) (Or.inl ⟨by rfl, ?_⟩) hS ?_
  rotate_left 1
  · intro w' hSw
    go_simp <;> with_reducible rfl
  try simp only [List.getElem_toArray, List.getElem_cons_zero, List.getElem_cons_succ, Act.put, List.setIfInBounds_toArray, List.set_cons_zero, List.set_cons_succ]
  refine wpAnyH_take (i := 10) (v := ?_) rfl (by kernel_rfl) (by kernel_rfl) (by kernel_rfl) (fun _ _ _ h => h) (Or.inl ⟨by rfl, ?_⟩) hS ?_
  rotate_left 1
  · intro w' hSw
    go_simp <;> with_reducible rfl
  try simp only [List.getElem_toArray, List.getElem_cons_zero, List.getElem_cons_succ, Act.put, List.setIfInBounds_toArray, List.set_cons_zero, List.set_cons_succ]
  refine wpAnyH_ready (rs := [11]) (by kernel_rfl) (by simp) (AllReadyH.cons rfl (fun K hK => ?_) AllReadyH.nil)
  go_simp
  (with_reducible refine hTick.mono ?_)
  rintro e3 w3 hT3
  obtain ⟨lv3, m3, tg3, rfl, hW3, hls3, hG3⟩ := hWd.told h1 h2 hT3
  obtain ⟨A3, cap3, rfl⟩ := hls3.form
  have HW3 := Lib.hid hW3
  have HG3 := Lib.hid hG3
  have hM3 := hG3.bk HTM.out hMd
  have HM3 := Lib.hid hM3
  have hTk := took_any hW3 h1 h2 (setAt_same _ _ _) hls3 HOK.out
  have hS3 : w3.cell? ⟨y.WB, 1, none⟩ = some (.slice (some ⟨y.pb, 0, none⟩) (n + 1) (n + 1)) ∧ w3.cell? ⟨y.pb, s, none⟩ = some (.pointer (some ⟨y.P s, 0, none⟩)) ∧ w3.cell? ⟨w.heap.size, 2, none⟩ = some (.int .i64 mn) := ⟨hW3.cells.2.1, (hW3.pk (fun h => h)).cell h1 h2 (fun h => h), hM3.cell 2⟩
  clear hT3 hW3 hls3 hG3 hM3 hTick
  go_simp
  refine hK _ _ hS3 (fun hS => ?_)
  clear hK K hS3
  try simp only [List.getElem_toArray, List.getElem_cons_zero, List.getElem_cons_succ, Act.put, List.setIfInBounds_toArray, List.set_cons_zero, List.set_cons_succ]
  refine wpAnyH_ready (rs := [12]) (by kernel_rfl) (by simp) (AllReadyH.cons rfl (fun K hK => ?_) AllReadyH.nil)
  go_simp
  (with_reducible refine hTk.mono ?_)
  rintro _ w4 ⟨rfl, tg4, la4, lv4, dv4, sv4, hW4, hG4⟩
  have HW4 := Lib.hid hW4
  have HG4 := Lib.hid hG4
  have hM4 := hG4.bk (HG3.out.zero HTM.out HMd.out.lt) HM3.out
  have hS4 : w4.cell? ⟨y.WB, 1, none⟩ = some (.slice (some ⟨y.pb, 0, none⟩) (n + 1) (n + 1)) ∧ w4.cell? ⟨y.pb, s, none⟩ = some (.pointer (some ⟨y.P s, 0, none⟩)) ∧ w4.cell? ⟨w.heap.size, 2, none⟩ = some (.int .i64 mn) := ⟨hW4.cells.2.1, (hW4.pk (fun h => h)).cell h1 h2 (fun h => h), hM4.cell 2⟩
  clear hW4 hG4 hM4 hTk
  go_simp
  refine hK _ _ hS4 (fun hS => ?_)
  clear hK K hS4
  try simp only [List.getElem_toArray, List.getElem_cons_zero, List.getElem_cons_succ, Act.put, List.setIfInBounds_toArray, List.set_cons_zero, List.set_cons_succ]
  refine wpAnyH_take (i := 13) (v := ?_) rfl (by kernel_rfl) (by kernel_rfl) (by kernel_rfl) (fun _ _ _ h => h) (Or.inl ⟨by rfl, ?_⟩) hS ?_
  rotate_left 1
  · intro w' hSw
    go_simp <;> with_reducible rfl
  try simp only [List.getElem_toArray, List.getElem_cons_zero, List.getElem_cons_succ, Act.put, List.setIfInBounds_toArray, List.set_cons_zero, List.set_cons_succ]
  refine wpAnyH_done (by kernel_rfl) ?_ _
  go_wp2_with fail
  go_ret
  exact ⟨rfl, tg4, _, _, _, HW4.out, HST.out, (Goes.of_below HB2.out.drew).trans (HG3.out.trans HG4.out), rfl, by have := HLE.out; show (k.net ++ cT.out).length ≤ _; rw [List.length_append]; omega⟩
end
end Go.Proofs.Ythfofnfkopnbhaa
namespace Go.Proofs.Ythfofnfkopnbhaa
open Go.RowKit Go.Maps Go.ChangeMaps
set_option linter.unusedVariables false
set_option linter.unusedSimpArgs false
set_option linter.unusedSectionVars false
set_option maxRecDepth 100000

section
variable {w w' : World} {n j : Nat} {tg : Nat → Int} {y : Ly} {prs : Int → Pr En} {k : Kp} {mk ms mn : Int}
set_option maxHeartbeats 4000000 in
theorem move_start (h : WmAt w n tg y prs k) (hr : RW n j prs k) (hj : j ≤ 400) (hq : pickV mk 12 = 9) :
    Calls Try.prog 8 #[.pointer (some ⟨y.WB, 0, none⟩), mvV mk ms mn] w fun e w' => e = .returned (.bool true) ∧ MvPost n j tg y k w w' := by
  obtain ⟨w1, hw1⟩ : ∃ w1, w1 = w.alloc (.cells #[.int .i64 mk, .int .i64 ms, .int .i64 mn] 29) := ⟨_, rfl⟩
  have hmb : Bk w1 w.heap.size 29 [.int .i64 mk, .int .i64 ms, .int .i64 mn] := by rw [hw1]; exact Bk.new w _ _
  have hb1 : Below w.heap.size w w1 := by rw [hw1]; exact (Below.refl _ _).alloc (Nat.le_refl _) _
  have hW1 := h.below (fun h => h) hb1
  have hMB : tg w.heap.size = 0 := Classical.byContradiction fun e => by have := h.lt _ e; omega
  have hn1 := h.n1
  have hn7 := h.n7
  obtain ⟨hp1, hp2⟩ := pickV_in ms (show (1 : Int) ≤ (n : Int) by omega)
  obtain ⟨s0, hs0⟩ : ∃ s0 : Nat, pickV ms n = s0 := ⟨(pickV ms n).toNat, by omega⟩
  have hs0n : s0 < n := by omega
  have hPk1 : ∀ q, Calls Try.prog 7 #[.int .i64 ms, .int .i64 n] (w1.drewN q) fun e w' => e = .returned (.int .i64 s0) ∧ w' = w1.drewN q := fun q => by rw [← hs0]; exact pick_is ms n _ (by omega) (by omega)
  obtain ⟨q0, hq0⟩ : ∃ q0, pickV mk 12 = q0 := ⟨_, rfl⟩
  have hPk2 : ∀ W, Calls Try.prog 7 #[.int .i64 mk, .int .i64 12] W fun e w' => e = .returned (.int .i64 q0) ∧ W = w' := fun W => by rw [← hq0]; exact (pick_is mk 12 _ (by decide) (by decide)).mono (fun e w' h => ⟨h.1, h.2.symm⟩)
  have hq1 := pickV_in mk (show (1 : Int) ≤ 12 by decide)
  rw [hq0] at hq1 hq
  obtain ⟨b0, b1, b2, b3, b4, b5, b6, b7⟩ := hW1.cells
  have m0 : w1.cell? ⟨w.heap.size, 0, none⟩ = some (.int .i64 mk) := hmb.cell 0
  have m1 : w1.cell? ⟨w.heap.size, 1, none⟩ = some (.int .i64 ms) := hmb.cell 1
  have m2 : w1.cell? ⟨w.heap.size, 2, none⟩ = some (.int .i64 mn) := hmb.cell 2
  have HW1 := Lib.hid hW1
  have HMB := Lib.hid hmb
  have HB1 := Lib.hid hb1
  have HTM := Lib.hid hMB
  have HR := Lib.hid hr
  clear h hmb hb1 hW1 hMB hp1 hp2 hs0 hq0 hr
  go_enter Try.func8, Try.ntmps8
  unfold mvV
  go_upto_region 1 with (fail)
  rw [← hw1]
  clear hw1
  go_quiet ((go_at_call 7; exact Calls.quiet_of_same (hPk1 _)))
  rw [show (1 : Int) + (s0 : Int) = ((s0 + 1 : Nat) : Int) by omega]
  obtain ⟨s, hs⟩ : ∃ s, s0 + 1 = s := ⟨_, rfl⟩
  rw [hs]
  have h1 : 1 ≤ s := by omega
  have h2 : s ≤ n := by omega
  clear hs hs0n hPk1
  have hIn : In n (s : Int) := ⟨by omega, by omega⟩
  have HIn := Lib.hid hIn
  clear hIn
  go_upto_region 2 with (fail)
  have hb2 : Below w.heap.size w (w1.drewN nq) := HB1.out.trans ⟨rfl, rfl, rfl, Nat.le_refl _, fun _ _ => rfl⟩
  have hW2 : WmAt (w1.drewN nq) n tg y prs k := HW1.out.below (fun h => h) ⟨rfl, rfl, rfl, Nat.le_refl _, fun _ _ => rfl⟩
  have hM2 : Bk (w1.drewN nq) w.heap.size 29 [.int .i64 mk, .int .i64 ms, .int .i64 mn] := HMB.out
  clear b0 b1 b2 b3 b4 b5 b6 b7 m0 m1 m2
  generalize w1.drewN nq = w2 at *
  clear HW1 HMB HB1
  have HW2 := Lib.hid hW2
  have HM2 := Lib.hid hM2
  have HB2 := Lib.hid hb2
  obtain ⟨b0, b1, b2, b3, b4, b5, b6, b7⟩ := hW2.cells
  have m0 : w2.cell? ⟨w.heap.size, 0, none⟩ = some (.int .i64 mk) := hM2.cell 0
  have m1 : w2.cell? ⟨w.heap.size, 1, none⟩ = some (.int .i64 ms) := hM2.cell 1
  have m2 : w2.cell? ⟨w.heap.size, 2, none⟩ = some (.int .i64 mn) := hM2.cell 2
  have cp := (hW2.pk (fun h => h)).cell h1 h2 (fun h => h)
  clear hW2 hM2 hb2
  subst hq
  have hok := HR.out.ok HIn.out (by omega) (by omega)
  have hpx := HR.out.px s HIn.out
  have hpb := HR.out.pb s HIn.out
  have hSt := start_any HW2.out (fun t h => h.elim) h1 h2 (by rw [HR.out.kT s HIn.out]; exact hok.t0) (by rw [HR.out.kT s HIn.out]; exact hok.t1) (by rw [HR.out.kV s HIn.out]; exact hpx.v.1) (by rw [HR.out.kV s HIn.out]; exact hpx.v.2) (by rw [HR.out.kL s HIn.out]; have := hpb.len; have : (prs s).log.length ≤ j := this; omega) (by rw [HR.out.kL s HIn.out]; exact hok.dat)
  clear hok hpx hpb b0 b1 b2 b3 b4 b5 b6 b7 m1 m2 cp
  go_wp2_with (first | (go_at_call 7; (with_reducible refine (hPk2 _).mono ?_); rintro _ wx ⟨rfl, rfl⟩) | (go_at_call 21; (with_reducible refine hSt.mono ?_); rintro _ w3 ⟨rfl, tg3, y3, hW3, hG3, hy3⟩))
  go_ret
  exact ⟨rfl, tg3, y3, _, k, hW3.to_ _ (fun t ht => ht.1) (fun h => h) (Ag.refl _ _) (fun _ _ _ => rfl) hW3.lt, (HR.out.start HIn.out).mono (by omega), (Goes.of_below HB2.out).trans hG3, hy3, by omega⟩
set_option maxHeartbeats 4000000 in
theorem move_idle (h : WmAt w n tg y prs k) (hr : RW n j prs k) (hn : k.net = []) (hq : 3 ≤ pickV mk 12 ∧ pickV mk 12 ≤ 8) :
    Calls Try.prog 8 #[.pointer (some ⟨y.WB, 0, none⟩), mvV mk ms mn] w fun e w' => e = .returned (.bool true) ∧ MvPost n j tg y k w w' := by
  obtain ⟨nA, ncap, hn1, _⟩ := (h.net (fun h => h)).form
  rw [show k.net.length = 0 by rw [hn]; rfl] at hn1
  have HN1 := Lib.hid hn1
  clear hn1 hn
  obtain ⟨w1, hw1⟩ : ∃ w1, w1 = w.alloc (.cells #[.int .i64 mk, .int .i64 ms, .int .i64 mn] 29) := ⟨_, rfl⟩
  have hmb : Bk w1 w.heap.size 29 [.int .i64 mk, .int .i64 ms, .int .i64 mn] := by rw [hw1]; exact Bk.new w _ _
  have hb1 : Below w.heap.size w w1 := by rw [hw1]; exact (Below.refl _ _).alloc (Nat.le_refl _) _
  have hW1 := h.below (fun h => h) hb1
  have hMB : tg w.heap.size = 0 := Classical.byContradiction fun e => by have := h.lt _ e; omega
  have hn1 := h.n1
  have hn7 := h.n7
  obtain ⟨hp1, hp2⟩ := pickV_in ms (show (1 : Int) ≤ (n : Int) by omega)
  obtain ⟨s0, hs0⟩ : ∃ s0 : Nat, pickV ms n = s0 := ⟨(pickV ms n).toNat, by omega⟩
  have hs0n : s0 < n := by omega
  have hPk1 : ∀ q, Calls Try.prog 7 #[.int .i64 ms, .int .i64 n] (w1.drewN q) fun e w' => e = .returned (.int .i64 s0) ∧ w' = w1.drewN q := fun q => by rw [← hs0]; exact pick_is ms n _ (by omega) (by omega)
  obtain ⟨q0, hq0⟩ : ∃ q0, pickV mk 12 = q0 := ⟨_, rfl⟩
  have hPk2 : ∀ W, Calls Try.prog 7 #[.int .i64 mk, .int .i64 12] W fun e w' => e = .returned (.int .i64 q0) ∧ W = w' := fun W => by rw [← hq0]; exact (pick_is mk 12 _ (by decide) (by decide)).mono (fun e w' h => ⟨h.1, h.2.symm⟩)
  have hq1 := pickV_in mk (show (1 : Int) ≤ 12 by decide)
  rw [hq0] at hq1 hq
  obtain ⟨b0, b1, b2, b3, b4, b5, b6, b7⟩ := hW1.cells
  have m0 : w1.cell? ⟨w.heap.size, 0, none⟩ = some (.int .i64 mk) := hmb.cell 0
  have m1 : w1.cell? ⟨w.heap.size, 1, none⟩ = some (.int .i64 ms) := hmb.cell 1
  have m2 : w1.cell? ⟨w.heap.size, 2, none⟩ = some (.int .i64 mn) := hmb.cell 2
  have HW1 := Lib.hid hW1
  have HMB := Lib.hid hmb
  have HB1 := Lib.hid hb1
  have HTM := Lib.hid hMB
  have HR := Lib.hid hr
  clear h hmb hb1 hW1 hMB hp1 hp2 hs0 hq0 hr
  go_enter Try.func8, Try.ntmps8
  unfold mvV
  go_upto_region 1 with (fail)
  rw [← hw1]
  clear hw1
  go_quiet ((go_at_call 7; exact Calls.quiet_of_same (hPk1 _)))
  rw [show (1 : Int) + (s0 : Int) = ((s0 + 1 : Nat) : Int) by omega]
  obtain ⟨s, hs⟩ : ∃ s, s0 + 1 = s := ⟨_, rfl⟩
  rw [hs]
  have h1 : 1 ≤ s := by omega
  have h2 : s ≤ n := by omega
  clear hs hs0n hPk1
  have hIn : In n (s : Int) := ⟨by omega, by omega⟩
  have HIn := Lib.hid hIn
  clear hIn
  go_upto_region 2 with (fail)
  have hb2 : Below w.heap.size w (w1.drewN nq) := HB1.out.trans ⟨rfl, rfl, rfl, Nat.le_refl _, fun _ _ => rfl⟩
  have hW2 : WmAt (w1.drewN nq) n tg y prs k := HW1.out.below (fun h => h) ⟨rfl, rfl, rfl, Nat.le_refl _, fun _ _ => rfl⟩
  have hM2 : Bk (w1.drewN nq) w.heap.size 29 [.int .i64 mk, .int .i64 ms, .int .i64 mn] := HMB.out
  clear b0 b1 b2 b3 b4 b5 b6 b7 m0 m1 m2
  generalize w1.drewN nq = w2 at *
  clear HW1 HMB HB1
  have HW2 := Lib.hid hW2
  have HM2 := Lib.hid hM2
  have HB2 := Lib.hid hb2
  obtain ⟨b0, b1, b2, b3, b4, b5, b6, b7⟩ := hW2.cells
  have m0 : w2.cell? ⟨w.heap.size, 0, none⟩ = some (.int .i64 mk) := hM2.cell 0
  have m1 : w2.cell? ⟨w.heap.size, 1, none⟩ = some (.int .i64 ms) := hM2.cell 1
  have m2 : w2.cell? ⟨w.heap.size, 2, none⟩ = some (.int .i64 mn) := hM2.cell 2
  have cp := (hW2.pk (fun h => h)).cell h1 h2 (fun h => h)
  clear hW2 hM2 hb2
  have d1 : decide (q0 ≤ 2) = false := decide_eq_false (by omega)
  have d2 : decide (q0 ≤ 8) = true := decide_eq_true (by omega)
  rw [HN1.out] at b5
  go_wp2_with (first | (go_at_call 7; (with_reducible refine (hPk2 _).mono ?_); rintro _ wx ⟨rfl, rfl⟩))
  go_ret
  exact ⟨rfl, tg, y, prs, k, HW2.out, HR.out.mono (by omega), Goes.of_below HB2.out, rfl, by omega⟩
end
end Go.Proofs.Ythfofnfkopnbhaa
namespace Go.Proofs.Ythfofnfkopnbhaa
open Go.RowKit Go.Maps Go.ChangeMaps
set_option linter.unusedVariables false
set_option linter.unusedSimpArgs false
set_option linter.unusedSectionVars false
set_option maxRecDepth 100000

theorem rowL_get : ∀ (ls : List (Lt En)) (ds : List (Option Addr × Nat)) (i : Nat) (l : Lt En) (d : Option Addr × Nat), ls[i]? = some l → ds[i]? = some d → ∀ j, j < 10 → (rowL ls ds)[i * 10 + j]? = (ltV l 0 d.1 d.2)[j]?
  | [], _, i, l, d, h, _, _, _ => by simp at h
  | _ :: _, [], i, l, d, _, h, _, _ => by simp at h
  | x :: ls, y :: ds, 0, l, d, h1, h2, j, hj => by
    simp at h1 h2
    subst h1 h2
    simp only [rowL, Nat.zero_mul, Nat.zero_add]
    rw [List.getElem?_append_left (by simp [ltV]; omega)]
  | x :: ls, y :: ds, i + 1, l, d, h1, h2, j, hj => by
    simp only [rowL]
    rw [List.getElem?_append_right (by simp [ltV]; omega), show (i + 1) * 10 + j - (ltV x 0 y.1 y.2).length = i * 10 + j by simp [ltV]; omega]
    exact rowL_get ls ds i l d (by simpa using h1) (by simpa using h2) j hj
theorem rowL_take : ∀ (k : Nat) (ls : List (Lt En)) (ds : List (Option Addr × Nat)), ds.length = ls.length → (rowL ls ds).take (k * 10) = rowL (ls.take k) (ds.take k)
  | 0, ls, ds, _ => by simp [rowL]
  | k + 1, [], [], _ => by simp [rowL]
  | k + 1, [], _ :: _, h => by simp at h
  | k + 1, _ :: _, [], h => by simp at h
  | k + 1, l :: ls, d :: ds, h => by
    have ih := rowL_take k ls ds (by simpa using h)
    simp only [rowL, List.take_succ_cons]
    rw [show (k + 1) * 10 = (ltV l 0 d.1 d.2).length + k * 10 by simp [ltV]; omega, List.take_length_add_append, ih]
theorem rowL_len (ls : List (Lt En)) (ds : List (Option Addr × Nat)) (h : ds.length = ls.length) : (rowL ls ds).length = ls.length * 10 := by
  induction ls generalizing ds with
  | nil => simp [rowL]
  | cons l ls ih =>
    cases ds with
    | nil => simp at h
    | cons d ds =>
      have := ih ds (by simpa using h)
      simp [rowL, ltV, this]
      omega
/-- A letter on its way, by its cells. -/
theorem NetAt.at_ {w : World} {tg : Nat → Int} {v : Value} {ls : List (Lt En)} (h : NetAt w tg v ls) {i : Nat} (hi : i < ls.length) :
    ∃ a cap l D d, v = .slice (some a) ls.length cap ∧ Hid (ls[i]? = some l) ∧ (∀ j u, (ltV l 0 D d)[j]? = some u → w.cell? ⟨(a.add (i * 10)).block, (a.add (i * 10)).off + j, none⟩ = some u) ∧ w.cell? (a.add (i * 10)) = some (.int .u8 l.kind) ∧ Ents w (fun b => tg b = 100) D d l.ents ∧ ls.length ≤ cap := by
  obtain ⟨g, o, ds, h1, h2, h3, h4⟩ := h
  obtain ⟨l, hl⟩ : ∃ l, ls[i]? = some l := ⟨_, List.getElem?_eq_getElem hi⟩
  obtain ⟨d, hd⟩ : ∃ d, ds[i]? = some d := ⟨_, List.getElem?_eq_getElem (by omega)⟩
  have hc := h1.cells
  rcases h1.2 with ⟨_, e⟩ | ⟨cap, cur, e, hg, hcp, _⟩
  · omega
  have hadd : (⟨g, o, none⟩ : Addr).add (i * 10) = ⟨g, o + i * 10, none⟩ := by unfold Addr.add; split <;> simp_all
  have hcell : ∀ j u, (ltV l 0 d.1 d.2)[j]? = some u → w.cell? ⟨g, o + i * 10 + j, none⟩ = some u := fun j u hu => by
    have hj : j < 10 := by have := (List.getElem?_eq_some_iff.1 hu).1; simpa [ltV] using this
    rw [Nat.add_assoc]
    exact hc (by rw [e]; simp [Value.ownBlock]) (i * 10 + j) u ((rowL_get ls ds i l d hl hd j hj).trans hu)
  refine ⟨⟨g, o, none⟩, cap, l, d.1, d.2, e, Lib.hid hl, fun j u hu => ?_, ?_, h4 i l d hl hd, hcp⟩
  · rw [hadd]; exact hcell j u hu
  · rw [hadd]; exact hcell 0 _ rfl
section
variable {w w' : World} {n j : Nat} {tg : Nat → Int} {y : Ly} {prs : Int → Pr En} {k : Kp}
/-- The letters' row is a new one. -/
theorem WmX.netNew {w3 : World} (h : WmAt w n tg y prs k) (hb : Below w.heap.size w w3) {g' o' cap : Nat} {ls : List (Lt En)} {ds : List (Option Addr × Nat)} (hd : ds.length = ls.length) (he : ∀ (i : Nat) (l : Lt En) (d : Option Addr × Nat), ls[i]? = some l → ds[i]? = some d → Ents w (fun b => tg b = 100) d.1 d.2 l.ents)
    (hr : RowO w3 40 10 (.slice (some ⟨g', o', none⟩) ls.length cap) g' o' ls.length (rowL ls ds)) (hg' : w.heap.size ≤ g') (hlt : g' < w3.heap.size) :
    WmAt (w3.setCell ⟨y.WB, 5, none⟩ (.slice (some ⟨g', o', none⟩) ls.length cap)) n (tgOne tg g' 108) { y with lv := .slice (some ⟨g', o', none⟩) ls.length cap } prs { k with net := ls } ∧ Goes tg (tgOne tg g' 108) w (w3.setCell ⟨y.WB, 5, none⟩ (.slice (some ⟨g', o', none⟩) ls.length cap)) := by
  have hne : ∀ b, tg b ≠ 0 → b ≠ g' := fun b e e2 => by have := h.lt b e; omega
  have h3 := (h.below (fun h => h) hb).to_ (w' := w3) (tg' := tgOne tg g' 108) (fun _ => False) (fun _ h => h) (fun h => h) (Ag.refl _ _) (fun b e _ => tgOne_ne _ _ _ (hne b e)) (fun b e => by
    by_cases q : b = g'
    · rw [q]; exact hlt
    · rw [tgOne_ne _ _ _ q] at e
      exact Nat.lt_of_lt_of_le (h.lt b e) hb.size)
  have hN : NetAt w3 (tgOne tg g' 108) (.slice (some ⟨g', o', none⟩) ls.length cap) ls := ⟨g', o', ds, hr, hd, fun _ => tgOne_same _ _ _, fun i l d q1 q2 => (he i l d q1 q2).keep (fun b hb' => hb.block b (h.lt b (by have hb' : tg b = 100 := hb'; omega))) (fun b hb' => by
    have hb' : tg b = 100 := hb'
    show tgOne tg g' 108 b = 100
    rw [tgOne_ne _ _ _ (hne b (by omega)), hb'])⟩
  have hs := h3.netSet hN
  exact ⟨hs.1, Goes.trans ⟨Ag.of_below _ hb, fun b e => by
    by_cases q : b = g'
    · exact .inr (by omega)
    · rw [tgOne_ne _ _ _ q] at e
      exact .inl e⟩ hs.2⟩
end
end Go.Proofs.Ythfofnfkopnbhaa
