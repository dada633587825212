/- raft, the law's world: move: a letter comes, or is lost: walked. -/
import Derived.Deep.CutBlock
import Derived.Test.YthfofnfkopnbhaaZE
namespace Go.Proofs.Ythfofnfkopnbhaa
open Go.RowKit Go.Maps Go.ChangeMaps
set_option linter.unusedVariables false
set_option linter.unusedSimpArgs false
set_option linter.unusedSectionVars false
set_option maxRecDepth 100000

/-- What the letter's region reads. -/
abbrev SLt (w : World) (y : Ly) (n dn LB : Nat) (l : Lt En) (D : Option Addr) (d : Nat) : Prop :=
  w.cell? ⟨y.WB, 1, none⟩ = some (.slice (some ⟨y.pb, 0, none⟩) (n + 1) (n + 1)) ∧ w.cell? ⟨y.pb, dn, none⟩ = some (.pointer (some ⟨y.P dn, 0, none⟩)) ∧ w.cell? ⟨LB, 0, none⟩ = some (.int .u8 l.kind) ∧ w.cell? ⟨LB, 1, none⟩ = some (.int .i64 l.src) ∧ w.cell? ⟨LB, 2, none⟩ = some (.int .i64 dn) ∧ w.cell? ⟨LB, 3, none⟩ = some (.int .i64 l.term) ∧ w.cell? ⟨LB, 4, none⟩ = some (.int .i64 l.idx) ∧ w.cell? ⟨LB, 5, none⟩ = some (.int .i64 l.was) ∧ w.cell? ⟨LB, 6, none⟩ = some (.bool l.ok) ∧ w.cell? ⟨LB, 7, none⟩ = some (.int .i64 l.com) ∧ w.cell? ⟨LB, 8, none⟩ = some (.int .i64 0) ∧ w.cell? ⟨LB, 9, none⟩ = some (.slice D l.ents.length d)
theorem slt_of {w : World} {n : Nat} {tg : Nat → Int} {y : Ly} {prs : Int → Pr En} {k : Kp} (h : WmAt w n tg y prs k) {dn LB : Nat} (h1 : 1 ≤ dn) (h2 : dn ≤ n) {l : Lt En} {D : Option Addr} {d : Nat} (hd : l.dst = dn) (hb : Bk w LB 40 (ltV l 0 D d)) : SLt w y n dn LB l D d := by
  refine ⟨h.cells.2.1, (h.pk (fun h => h)).cell h1 h2 (fun h => h), hb.cell 0, hb.cell 1, ?_, hb.cell 3, hb.cell 4, hb.cell 5, hb.cell 6, hb.cell 7, hb.cell 8, hb.cell 9⟩
  rw [← hd]
  exact hb.cell 2
section
variable {w w' : World} {n j : Nat} {tg : Nat → Int} {y : Ly} {prs : Int → Pr En} {k : Kp} {mk ms mn : Int}
set_option maxHeartbeats 8000000 in
theorem move_letter (h : WmAt w n tg y prs k) (hr : RW n j prs k) (hj : j ≤ 400) (hnl : k.net.length ≤ 400) (hn0 : 0 < k.net.length) (hq : 3 ≤ pickV mk 12 ∧ pickV mk 12 ≤ 8) :
    Calls Try.prog 8 #[.pointer (some ⟨y.WB, 0, none⟩), mvV mk ms mn] w fun e w' => e = .returned (.bool true) ∧ MvPost n j tg y k w w' := by
  obtain ⟨nl, hnle⟩ : ∃ nl, k.net.length = nl := ⟨_, rfl⟩
  rw [hnle] at hnl hn0
  have HNL := Lib.hid hnle
  clear hnle
  obtain ⟨w1, hw1⟩ : ∃ w1, w1 = w.alloc (.cells #[.int .i64 mk, .int .i64 ms, .int .i64 mn] 29) := ⟨_, rfl⟩
  have hmb : Bk w1 w.heap.size 29 [.int .i64 mk, .int .i64 ms, .int .i64 mn] := by rw [hw1]; exact Bk.new w _ _
  have hb1 : Below w.heap.size w w1 := by rw [hw1]; exact (Below.refl _ _).alloc (Nat.le_refl _) _
  have hW1 := h.below (fun h => h) hb1
  have hMB : tg w.heap.size = 0 := Classical.byContradiction fun e => by have := h.lt _ e; omega
  have hn1 := h.n1
  have hn7 := h.n7
  obtain ⟨hp1, hp2⟩ := pickV_in ms (show (1 : Int) ≤ (n : Int) by omega)
  obtain ⟨s0, hs0⟩ : ∃ s0 : Nat, pickV ms n = s0 := ⟨(pickV ms n).toNat, by omega⟩
  have hs0n : s0 < n := by omega
  have hPk1 : ∀ q, Calls Try.prog 7 #[.int .i64 ms, .int .i64 n] (w1.drewN q) fun e w' => e = .returned (.int .i64 s0) ∧ w' = w1.drewN q := fun q => by rw [← hs0]; exact pick_is ms n _ (by omega) (by omega)
  obtain ⟨q0, hq0⟩ : ∃ q0, pickV mk 12 = q0 := ⟨_, rfl⟩
  have hPk2 : ∀ W, Calls Try.prog 7 #[.int .i64 mk, .int .i64 12] W fun e w' => e = .returned (.int .i64 q0) ∧ W = w' := fun W => by rw [← hq0]; exact (pick_is mk 12 _ (by decide) (by decide)).mono (fun e w' h => ⟨h.1, h.2.symm⟩)
  have hq1 := pickV_in mk (show (1 : Int) ≤ 12 by decide)
  rw [hq0] at hq1 hq
  obtain ⟨b0, b1, b2, b3, b4, b5, b6, b7⟩ := hW1.cells
  have m0 : w1.cell? ⟨w.heap.size, 0, none⟩ = some (.int .i64 mk) := hmb.cell 0
  have m1 : w1.cell? ⟨w.heap.size, 1, none⟩ = some (.int .i64 ms) := hmb.cell 1
  have m2 : w1.cell? ⟨w.heap.size, 2, none⟩ = some (.int .i64 mn) := hmb.cell 2
  have HW1 := Lib.hid hW1
  have HMB := Lib.hid hmb
  have HB1 := Lib.hid hb1
  have HTM := Lib.hid hMB
  have HR := Lib.hid hr
  clear h hmb hb1 hW1 hMB hp1 hp2 hs0 hq0 hr
  go_enter Try.func8, Try.ntmps8
  unfold mvV
  go_upto_region 1 with (fail)
  rw [← hw1]
  clear hw1
  go_quiet ((go_at_call 7; exact Calls.quiet_of_same (hPk1 _)))
  rw [show (1 : Int) + (s0 : Int) = ((s0 + 1 : Nat) : Int) by omega]
  obtain ⟨s, hs⟩ : ∃ s, s0 + 1 = s := ⟨_, rfl⟩
  rw [hs]
  have h1 : 1 ≤ s := by omega
  have h2 : s ≤ n := by omega
  clear hs hs0n hPk1
  have hIn : In n (s : Int) := ⟨by omega, by omega⟩
  have HIn := Lib.hid hIn
  clear hIn
  go_upto_region 2 with (fail)
  have hb2 : Below w.heap.size w (w1.drewN nq) := HB1.out.trans ⟨rfl, rfl, rfl, Nat.le_refl _, fun _ _ => rfl⟩
  have hW2 : WmAt (w1.drewN nq) n tg y prs k := HW1.out.below (fun h => h) ⟨rfl, rfl, rfl, Nat.le_refl _, fun _ _ => rfl⟩
  have hM2 : Bk (w1.drewN nq) w.heap.size 29 [.int .i64 mk, .int .i64 ms, .int .i64 mn] := HMB.out
  clear b0 b1 b2 b3 b4 b5 b6 b7 m0 m1 m2
  generalize w1.drewN nq = w2 at *
  clear HW1 HMB HB1
  have HW2 := Lib.hid hW2
  have HM2 := Lib.hid hM2
  have HB2 := Lib.hid hb2
  obtain ⟨b0, b1, b2, b3, b4, b5, b6, b7⟩ := hW2.cells
  have m0 : w2.cell? ⟨w.heap.size, 0, none⟩ = some (.int .i64 mk) := hM2.cell 0
  have m1 : w2.cell? ⟨w.heap.size, 1, none⟩ = some (.int .i64 ms) := hM2.cell 1
  have m2 : w2.cell? ⟨w.heap.size, 2, none⟩ = some (.int .i64 mn) := hM2.cell 2
  have cp := (hW2.pk (fun h => h)).cell h1 h2 (fun h => h)
  clear hW2 hM2 hb2
  have d1 : decide (q0 ≤ 2) = false := decide_eq_false (by omega)
  have d2 : decide (q0 ≤ 8) = true := decide_eq_true (by omega)
  have d3 : ((nl : Int) == 0) = false := by simp; omega
  obtain ⟨hp1, hp2⟩ := pickV_in mn (show (1 : Int) ≤ (nl : Int) by omega)
  obtain ⟨at0, hat0⟩ : ∃ at0 : Nat, pickV mn nl = at0 := ⟨(pickV mn nl).toNat, by omega⟩
  have hat : at0 < nl := by omega
  have hPk8 : ∀ q, Calls Try.prog 7 #[.int .i64 mn, .int .i64 nl] (w2.drewN q) fun e w' => e = .returned (.int .i64 at0) ∧ w' = w2.drewN q := fun q => by rw [← hat0]; exact pick_is mn nl _ (by omega) (by omega)
  obtain ⟨a, ncap, l, D, d, hn1, hl, hcell, hc0, hE, hncap⟩ := (HW2.out.net (fun h => h)).at_ (i := at0) (by rw [HNL.out]; exact hat)
  rw [HNL.out] at hn1 hncap
  rw [hn1] at b5
  have HN1 := Lib.hid hn1
  have HCL := Lib.hid hcell
  have HC0 := Lib.hid hc0
  have HE := Lib.hid hE
  clear hat0 hp1 hp2 hn1 hcell hc0 hE
  go_upto_region 8 with (go_at_call 7; (with_reducible refine (hPk2 _).mono ?_); rintro _ wx ⟨rfl, rfl⟩)
  go_quiet ((go_at_call 7; exact Calls.quiet_of_same (hPk8 _)))
  go_upto_region 9 with (fail)
  have hb3 : Below w2.heap.size w2 (w2.drewN nq) := ⟨rfl, rfl, rfl, Nat.le_refl _, fun _ _ => rfl⟩
  have hW3 : WmAt (w2.drewN nq) n tg y prs k := HW2.out.below (fun h => h) hb3
  have hM3 : Bk (w2.drewN nq) w.heap.size 29 [.int .i64 mk, .int .i64 ms, .int .i64 mn] := HM2.out
  have hB3 : Below w.heap.size w (w2.drewN nq) := HB2.out.trans ⟨rfl, rfl, rfl, Nat.le_refl _, fun _ _ => rfl⟩
  have hcl3 : ∀ j u, (ltV l 0 D d)[j]? = some u → (w2.drewN nq).cell? ⟨(a.add (at0 * 10)).block, (a.add (at0 * 10)).off + j, none⟩ = some u := HCL.out
  have hc03 : (w2.drewN nq).cell? (a.add (at0 * 10)) = some (.int .u8 l.kind) := HC0.out
  have hE3 : Ents (w2.drewN nq) (fun b => tg b = 100) D d l.ents := HE.out.keep (fun _ _ => rfl) (fun _ h => h)
  clear b0 b1 b2 b3 b4 b5 b6 b7 m0 m1 m2 cp hPk8 HW2 HM2 HB2 HCL HC0 HE hb3
  generalize w2.drewN nq = w3 at *
  have HW3 := Lib.hid hW3
  have HM3 := Lib.hid hM3
  have HB3 := Lib.hid hB3
  have HE3 := Lib.hid hE3
  obtain ⟨b0, b1, b2, b3, b4, b5, b6, b7⟩ := hW3.cells
  rw [HN1.out] at b5
  have m2 : w3.cell? ⟨w.heap.size, 2, none⟩ = some (.int .i64 mn) := hM3.cell 2
  have k1 := hcl3 1 _ rfl
  have k2 := hcl3 2 _ rfl
  have k3 := hcl3 3 _ rfl
  have k4 := hcl3 4 _ rfl
  have k5 := hcl3 5 _ rfl
  have k6 := hcl3 6 _ rfl
  have k7 := hcl3 7 _ rfl
  have k8 := hcl3 8 _ rfl
  have k9 := hcl3 9 _ rfl
  clear hW3 hM3 hB3 hE3 hcl3
  go_upto_region 10 with (fail)
  have hb4 : Below w3.heap.size w3 (w3.alloc (.cells #[.int .u8 l.kind, .int .i64 l.src, .int .i64 l.dst, .int .i64 l.term, .int .i64 l.idx, .int .i64 l.was, .bool l.ok, .int .i64 l.com, .int .i64 0, .slice D l.ents.length d] 40)) := (Below.refl _ _).alloc (Nat.le_refl _) _
  have hL4 : Bk (w3.alloc (.cells #[.int .u8 l.kind, .int .i64 l.src, .int .i64 l.dst, .int .i64 l.term, .int .i64 l.idx, .int .i64 l.was, .bool l.ok, .int .i64 l.com, .int .i64 0, .slice D l.ents.length d] 40)) w3.heap.size 40 (ltV l 0 D d) := Bk.new w3 _ _
  have hW4 := HW3.out.below (fun h => h) hb4
  have hE4 := HE3.out.keep (K' := fun b => tg b = 100) (fun b hb => hb4.block b (HW3.out.lt b (by have hb : tg b = 100 := hb; omega))) (fun _ h => h)
  have hB4 := HB3.out.trans (hb4.mono HB3.out.size)
  have hTL : tg w3.heap.size = 0 := Classical.byContradiction fun e => by have := HW3.out.lt _ e; omega
  clear b0 b1 b2 b3 b4 b5 b6 b7 m2 k1 k2 k3 k4 k5 k6 k7 k8 k9 hc03 hb4
  obtain ⟨LB, hLB⟩ : ∃ LB, w3.heap.size = LB := ⟨_, rfl⟩
  rw [hLB] at hL4 hTL ⊢
  generalize (w3.alloc (.cells #[.int .u8 l.kind, .int .i64 l.src, .int .i64 l.dst, .int .i64 l.term, .int .i64 l.idx, .int .i64 l.was, .bool l.ok, .int .i64 l.com, .int .i64 0, .slice D l.ents.length d] 40)) = w4 at *
  clear hLB HM3 HB3 HW3 HE3 HTM
  obtain ⟨g, o, ds, hro, hds, htg, hen⟩ := hW4.net (fun h => h)
  rw [HN1.out] at hro htg
  rw [HNL.out] at hro hds
  have hag : a = ⟨g, o, none⟩ := by
    rcases hro.2 with ⟨e, _⟩ | ⟨cap', cur, e, _⟩
    · cases e
    · injection e with e; injection e
  have hgl : g < w4.heap.size := by
    rcases hro.2 with ⟨e, _⟩ | ⟨cap', cur, e, hg, _⟩
    · cases e
    · exact (Array.getElem?_eq_some_iff.1 hg).1
  have hrl : (rowL k.net ds).length = nl * 10 := hro.1
  have hcw : ∀ (W : World), W.heap[g]? = w4.heap[g]? → ∀ i u, (rowL k.net ds)[i]? = some u → W.cell? (a.add i) = some u := fun W hW i u hu => by
    rw [hag]
    have hadd : (⟨g, o, none⟩ : Addr).add i = ⟨g, o + i, none⟩ := by unfold Addr.add; split <;> simp_all
    rw [hadd]
    exact (World.cell?_of_block (a := ⟨g, o + i, none⟩) hW).trans (hro.cells (by simp [Value.ownBlock]) i u hu)
  have hgW : g ≠ y.WB := fun e => by have := htg (by rw [hag]; rfl); rw [e, hW4.tW (fun h => h)] at this; exact absurd this (by decide)
  have HCW := Lib.hid hcw
  have HAG := Lib.hid hag
  have HRL := Lib.hid hrl
  have HGL := Lib.hid hgl
  have HGW := Lib.hid hgW
  have HDS := Lib.hid hds
  have HEN := Lib.hid hen
  have HW4 := Lib.hid hW4
  have HL4 := Lib.hid hL4
  have HE4 := Lib.hid hE4
  have HB4 := Lib.hid hB4
  have HTL := Lib.hid hTL
  obtain ⟨b0, b1, b2, b3, b4, b5, b6, b7⟩ := hW4.cells
  rw [HN1.out] at b5
  clear hro hds htg hen hag hgl hrl hcw hgW hW4 hL4 hE4 hB4 hTL
  go_upto_if 65 with (fail)
  go_cut [] (fun wx => ∃ (tg5 : Nat → Int) (lv5 : Value) (net5 : List (Lt En)), WmAt wx n tg5 { y with lv := lv5 } prs { k with net := net5 } ∧ Goes tg tg5 w4 wx ∧ Hid (∀ l ∈ net5, l ∈ k.net) ∧ net5.length ≤ nl ∧ Hid (∀ b, tg b = 100 → wx.heap[b]? = w4.heap[b]? ∧ tg5 b = 100))
  case first =>
    by_cases q7 : q0 = 7
    · subst q7
      go_wp2_with fail
      go_meet
      exact ⟨tg, y.lv, k.net, HW4.out, Goes.refl _ _, Lib.hid (fun _ h => h), Nat.le_of_eq HNL.out, Lib.hid (fun b h => ⟨rfl, h⟩)⟩
    · have d7 : (q0 == 7) = false := by simp [q7]
      clear q7
      obtain ⟨i0, hi, hz, hz1, hz2⟩ := info_parts infoLt
      have HWB := Lib.hid (HW4.out.wb (fun h => h))
      have f5 : w4.frozen? ⟨y.WB, 5, none⟩ = false := HWB.out.frozen 5
      have b5' : ∀ o, (w4.alloc o).cell? ⟨y.WB, 5, none⟩ = some (.slice (some a) nl ncap) := fun o => (World.cell?_of_block (heap_alloc_old w4 o HWB.out.lt)).trans b5
      have htl : (rowL (k.net.take at0) (ds.take at0)).length = at0 * 10 := by rw [← rowL_take _ _ _ (by rw [HDS.out, HNL.out]), List.length_take, HRL.out]; omega
      have htc : ∀ (W : World), W.heap[g]? = w4.heap[g]? → ∀ i u, (rowL (k.net.take at0) (ds.take at0))[i]? = some u → W.cell? (a.add i) = some u := fun W hW i u hu => by
        rw [← rowL_take _ _ _ (by rw [HDS.out, HNL.out]), List.getElem?_take] at hu
        split at hu
        · exact HCW.out W hW i u hu
        · cases hu
      have HTC := Lib.hid htc
      have hdl : (rowL (k.net.drop (at0 + 1)) (ds.drop (at0 + 1))).length = (nl - (at0 + 1)) * 10 := by rw [← rowL_drop _ _ _ (by rw [HDS.out, HNL.out]), List.length_drop, HRL.out, Nat.sub_mul]
      have hdc : ∀ (W : World), W.heap[g]? = w4.heap[g]? → ∀ i u, (rowL (k.net.drop (at0 + 1)) (ds.drop (at0 + 1)))[i]? = some u → W.cell? ((a.add ((at0 + 1) * 10)).add i) = some u := fun W hW i u hu => by
        rw [← rowL_drop _ _ _ (by rw [HDS.out, HNL.out]), List.getElem?_drop] at hu
        rw [Addr.add_add]
        exact HCW.out W hW _ u hu
      have HDC := Lib.hid hdc
      have hlv5 : (wV n y).toArray[5]? = some (.slice (some a) nl ncap) := by show some y.lv = _; rw [HN1.out]
      have HLV := Lib.hid hlv5
      have hwr : IntKind.i64.wrap ((at0 : Int) + 1) = ((at0 + 1 : Nat) : Int) := by rw [IntKind.wrap_i64]; omega
      have hii : (0 : Int) ≤ (at0 : Int) + 1 := by omega
      have hij : (at0 : Int) + 1 ≤ (nl : Int) := by omega
      have hle1 : at0 ≤ ncap := by omega
      have hle2 : at0 + 1 ≤ nl := by omega
      have hle3 : at0 + 1 ≤ ncap := by omega
      clear htc hdc hlv5
      go_upto_region 11 with (fail)
      go_region_law (first
        | (refine step_append_rowO0 _ (by rfl) (.tmp 67) (.tmp 73) 33 (by rfl) 40 i0 _ 10 _ Try.underlying33 hi hz hz1 hz2 rfl (some ⟨w4.heap.size, 0, none⟩) 0 w4.heap.size 0 0 [] (by rfl) ?_ rfl ?_ (some a) at0 _ (rowL (k.net.take at0) (ds.take at0)) (by rfl) htl (fun _ => ⟨a, rfl, ?_⟩) (rowL_one _ _) ?_ ?_ ?_
           · exact ⟨rfl, .inr ⟨0, #[], rfl, heap_alloc_new w4 _, Nat.le_refl _, Nat.zero_le _, by simp, rfl⟩⟩
           · simp
           · exact HTC.out _ (heap_alloc_old w4 _ HGL.out)
           · unfold maxLen; omega
           · omega
           intro w7 g7 o7 cap7 hrow7 hgr7 hg7 hlt7
           have ob7 := (hgr7.block y.WB (by simp; exact Nat.lt_succ_of_lt HWB.out.lt) (fun e => by injection e with e; have := HWB.out.lt; omega)).trans ((heap_alloc_old w4 _ HWB.out.lt).trans HWB.out)
           have oc7 : w7.cell? ⟨y.WB, 5, none⟩ = some (.slice (some a) nl ncap) := (cell_of_row w7 y.WB 5 _ _ _ ob7).trans HLV.out
           have of7 : w7.frozen? ⟨y.WB, 5, none⟩ = false := frozen_blk ob7 5
           have og7 := (hgr7.block g (by simp; exact Nat.lt_succ_of_lt HGL.out) (fun e => by injection e with e; have := HGL.out; omega)).trans (heap_alloc_old w4 _ HGL.out)
           simp only [Nat.zero_add, List.nil_append] at hrow7
           have hg7' : w4.heap.size ≤ g7 := by
             rcases hg7 with q | q
             · simp at q; omega
             · omega
           have hb7 : Below w4.heap.size w4 w7 := ⟨hgr7.os, hgr7.tape, hgr7.output, Nat.le_trans (by simp) hgr7.size, fun b q => (hgr7.block b (by simp; exact Nat.lt_succ_of_lt q) (fun e => by injection e with e; omega)).trans (heap_alloc_old w4 _ q)⟩)
        | (refine step_append_rowO0 _ (by rfl) (.tmp 74) (.tmp 81) 33 (by rfl) 40 i0 _ 10 _ Try.underlying33 hi hz hz1 hz2 rfl (some ⟨g7, o7, none⟩) cap7 g7 o7 at0 _ (by rfl) hrow7 rfl hlt7 _ (nl - (at0 + 1)) _ (rowL (k.net.drop (at0 + 1)) (ds.drop (at0 + 1))) (by rfl) hdl (fun hm => ⟨a.add ((at0 + 1) * 10), ?_, ?_⟩) (rowL_one _ _) ?_ ?_ ?_
           · rw [if_neg (by omega)]
           · exact HDC.out _ og7
           · unfold maxLen; omega
           · omega
           intro w8 g8 o8 cap8 hrow8 hgr8 hg8 hlt8
           have ob8 := (hgr8.block y.WB (Array.getElem?_eq_some_iff.1 ob7).1 (fun e => by injection e with e; have := HWB.out.lt; omega)).trans ob7
           have hg8' : w4.heap.size ≤ g8 := by
             have := hb7.size
             rcases hg8 with q | q <;> omega
           have hb8 : Below w4.heap.size w4 w8 := ⟨hgr8.os.trans hb7.os, hgr8.tape.trans hb7.tape, hgr8.output.trans hb7.output, Nat.le_trans hb7.size hgr8.size, fun b q => (hgr8.block b (Nat.lt_of_lt_of_le q hb7.size) (fun e => by injection e with e; omega)).trans (hb7.block b q)⟩
           have oc8 : w8.cell? ⟨y.WB, 5, none⟩ = some (.slice (some a) nl ncap) := (cell_of_row w8 y.WB 5 _ _ _ ob8).trans HLV.out
           have of8 : w8.frozen? ⟨y.WB, 5, none⟩ = false := frozen_blk ob8 5))
      all_goals go_wp2_with fail
      all_goals
        go_meet
        have hln : (k.net.take at0 ++ k.net.drop (at0 + 1)).length = at0 + (nl - (at0 + 1)) := by
          rw [List.length_append, List.length_take, List.length_drop, HNL.out]
          omega
        have hdn : (ds.take at0 ++ ds.drop (at0 + 1)).length = (k.net.take at0 ++ k.net.drop (at0 + 1)).length := by
          rw [hln, List.length_append, List.length_take, List.length_drop, HDS.out]
          omega
        have hWn := HW4.out.netNew hb8 (ls := k.net.take at0 ++ k.net.drop (at0 + 1)) (ds := ds.take at0 ++ ds.drop (at0 + 1)) (g' := g8) (o' := o8) (cap := cap8) hdn (fun i x y q1 q2 => by
          rcases Nat.lt_or_ge i at0 with q | q
          · rw [List.getElem?_append_left (by rw [List.length_take, HNL.out]; omega), List.getElem?_take, if_pos q] at q1
            rw [List.getElem?_append_left (by rw [List.length_take, HDS.out]; omega), List.getElem?_take, if_pos q] at q2
            exact HEN.out i x y q1 q2
          · rw [List.getElem?_append_right (by rw [List.length_take, HNL.out]; omega), List.length_take, HNL.out, List.getElem?_drop] at q1
            rw [List.getElem?_append_right (by rw [List.length_take, HDS.out]; omega), List.length_take, HDS.out, List.getElem?_drop] at q2
            exact HEN.out _ x y q1 q2) (by rw [hln, rowL_app _ _ _ _ (by rw [List.length_take, List.length_take, HDS.out, HNL.out])]; exact hrow8) hg8' hlt8
        rw [hln] at hWn
        exact ⟨_, _, _, hWn.1, hWn.2, Lib.hid (fun x hx => by
          rw [List.mem_append] at hx
          exact hx.elim List.mem_of_mem_take List.mem_of_mem_drop), (by rw [hln]; omega), Lib.hid (fun b hb => ⟨(Below.heap_setCell _ _ _ _ (fun e => by have e : b = y.WB := e; rw [e, HW4.out.tW (fun h => h)] at hb; exact absurd hb (by decide))).trans (hb8.block b (HW4.out.lt b (by omega))), (tgOne_ne _ _ _ (fun e => by have := HW4.out.lt b (by omega); omega)).trans hb⟩)⟩
  case rest =>
  obtain ⟨tg5, lv5, net5, hW5, hG5, hn5, hl5, hK5⟩ := hcut
  as_aux_lemma =>
  have HW5 := Lib.hid hW5
  have HG5 := Lib.hid hG5
  have HL5 := Lib.hid (hG5.bk HTL.out HL4.out)
  have HTL5 := Lib.hid (hG5.zero HTL.out HL4.out.lt)
  have hlm : l ∈ k.net := List.mem_of_getElem? hl.out
  clear hW5 hG5 b0 b1 b2 b3 b4 b5 b6 b7
  by_cases q8 : q0 = 8
  · subst q8
    go_wp2_with fail
    go_ret
    exact ⟨rfl, tg5, _, prs, _, HW5.out, (HR.out.lost hn5.out).mono (by omega), (Goes.of_below HB4.out).trans HG5.out, rfl, by have := HNL.out; show net5.length ≤ _; omega⟩
  · have d8 : (q0 == 8) = false := by simp [q8]
    clear q8
    obtain ⟨gg, hgg⟩ := HR.out.inv
    have hdst := (hgg.net l hlm).dst
    obtain ⟨dn, hdn⟩ : ∃ dn : Nat, l.dst = dn := ⟨l.dst.toNat, by have := hdst.1; omega⟩
    have hInD : In n (dn : Int) := by rw [← hdn]; exact hdst
    have hd1 : 1 ≤ dn := by have := hInD.1; omega
    have hd2 : dn ≤ n := by have := hInD.2; omega
    obtain ⟨b, hb⟩ : ∃ b : Bool, (b = true ↔ RightOk l 0) := ⟨@decide (RightOk l 0) (Classical.propDecidable _), by simp⟩
    have hlb := HR.out.lb l hlm
    have hpe : PeA wc.drew (y.P dn) n dn (y.m dn) (fun _ => False) ⟨prs dn, y.frm dn, []⟩ := (HW5.out.pe dn hd1 hd2 (fun h => h)).drew
    have hLt := letter_any b l 0 D d (fun b => tg5 b = 100) hb hpe (HR.out.ok hInD (by omega) (by omega)) (HE4.out.keep (K' := fun b => tg5 b = 100) (fun b hb => (hK5.out b hb).1) (fun b hb => (hK5.out b hb).2)) (fun b hb => ⟨HW5.out.lt b (by have hb : tg5 b = 100 := hb; omega), fun ho => by
      have h3 := HW5.out.tow dn hd1 hd2 (fun h => h) b ho
      have hb : tg5 b = 100 := hb
      omega⟩) (by have := hlb.1.ents; omega) (fun e he => by have := hlb.2 e he; unfold DE at this; rw [this]; exact Nat.zero_le _) (fun hr3 => (HR.out.px dn hInD).mat hr3 _)
    have hstep := HR.out.letter hInD (by omega) hj (net := net5) hn5.out (by omega) hlm b
    obtain ⟨cT, hcT⟩ : ∃ cT, letterP En.term noopE n dn b l ⟨prs dn, 0, []⟩ = cT := ⟨_, rfl⟩
    dsimp only at hLt
    rw [hcT] at hLt hstep
    have HOK := Lib.hid hstep.1
    have HST := Lib.hid hstep.2.1
    have HLE := Lib.hid hstep.2.2
    have HDN := Lib.hid hdn
    have HWd := Lib.hid (HW5.out.below (fun h => h) (below_drew _))
    have hS0 := slt_of HWd.out hd1 hd2 hdn (HL5.out.drew)
    simp only [ltA, ltV, hdn] at hLt
    clear hcT hstep hgg hdst hInD hb hlb hpe hdn hlm
    go_upto_region 14 with (fail)
    refine wp_region_held_drew (S := fun w' => SLt w' y n dn LB l D d) (by kernel_rfl) hS0 (fun hS => ?_)
    clear hS0
    refine wpAnyH_take (i := 0) (v := ?_) rfl (by kernel_rfl) (by kernel_rfl) (by kernel_rfl) (fun _ _ _ h => h) (Or.inl ⟨by rfl, ?_⟩) hS ?_
    rotate_left 1
    · intro w' hSw
      go_simp <;> with_reducible rfl
    try simp only [List.getElem_toArray, List.getElem_cons_zero, List.getElem_cons_succ, Act.put, List.setIfInBounds_toArray, List.set_cons_zero, List.set_cons_succ]
    refine wpAnyH_take (i := 1) (v := ?_) rfl (by kernel_rfl) (by kernel_rfl) (by kernel_rfl) (fun _ _ _ h => h) (Or.inl ⟨by rfl, ?_⟩) hS ?_
    rotate_left 1
    · intro w' hSw
      go_simp <;> with_reducible rfl
    try simp only [List.getElem_toArray, List.getElem_cons_zero, List.getElem_cons_succ, Act.put, List.setIfInBounds_toArray, List.set_cons_zero, List.set_cons_succ]
    refine wpAnyH_take (i := 2) (v := ?_) rfl (by kernel_rfl) (by kernel_rfl) (by kernel_rfl) (fun _ _ _ h => h) (Or.inl ⟨by rfl, ?_⟩) hS ?_
    rotate_left 1
    · intro w' hSw
      go_simp <;> with_reducible rfl
    try simp only [List.getElem_toArray, List.getElem_cons_zero, List.getElem_cons_succ, Act.put, List.setIfInBounds_toArray, List.set_cons_zero, List.set_cons_succ]
    refine wpAnyH_take (i := 3) (v := ?_) rfl (by kernel_rfl) (by kernel_rfl) (by kernel_rfl) (fun _ _ _ h => h) (Or.inl ⟨by rfl, ?_⟩) hS ?_
    rotate_left 1
    · intro w' hSw
      go_simp <;> with_reducible rfl
    try simp only [List.getElem_toArray, List.getElem_cons_zero, List.getElem_cons_succ, Act.put, List.setIfInBounds_toArray, List.set_cons_zero, List.set_cons_succ]
    refine wpAnyH_take (i := 4) (v := ?_) rfl (by kernel_rfl) (by kernel_rfl) (by kernel_rfl) (fun _ _ _ h => h) (Or.inl ⟨by rfl, ?_⟩) hS ?_
    rotate_left 1
    · intro w' hSw
      go_simp <;> with_reducible rfl
    try simp only [List.getElem_toArray, List.getElem_cons_zero, List.getElem_cons_succ, Act.put, List.setIfInBounds_toArray, List.set_cons_zero, List.set_cons_succ]
    refine wpAnyH_take (i := 5) (v := ?_) rfl (by kernel_rfl) (by kernel_rfl) (by kernel_rfl) (fun _ _ _ h => h) (Or.inl ⟨by rfl, ?_⟩) hS ?_
    rotate_left 1
    · intro w' hSw
      go_simp <;> with_reducible rfl
    try simp only [List.getElem_toArray, List.getElem_cons_zero, List.getElem_cons_succ, Act.put, List.setIfInBounds_toArray, List.set_cons_zero, List.set_cons_succ]
    refine wpAnyH_take (i := 6) (v := ?_) rfl (by kernel_rfl) (by kernel_rfl) (by kernel_rfl) (fun _ _ _ h => h) (Or.inl ⟨by rfl, ?_⟩) hS ?_
    rotate_left 1
    · intro w' hSw
      go_simp <;> with_reducible rfl
    try simp only [List.getElem_toArray, List.getElem_cons_zero, List.getElem_cons_succ, Act.put, List.setIfInBounds_toArray, List.set_cons_zero, List.set_cons_succ]
    refine wpAnyH_take (i := 7) (v := ?_) rfl (by kernel_rfl) (by kernel_rfl) (by kernel_rfl) (fun _ _ _ h => h) (Or.inl ⟨by rfl, ?_⟩) hS ?_
    rotate_left 1
    · intro w' hSw
      go_simp <;> with_reducible rfl
    try simp only [List.getElem_toArray, List.getElem_cons_zero, List.getElem_cons_succ, Act.put, List.setIfInBounds_toArray, List.set_cons_zero, List.set_cons_succ]
    refine wpAnyH_take (i := 8) (v := ?_) rfl (by kernel_rfl) (by kernel_rfl) (by kernel_rfl) (fun _ _ _ h => h) (Or.inl ⟨by rfl, ?_⟩) hS ?_
    rotate_left 1
    · intro w' hSw
      go_simp <;> with_reducible rfl
    try simp only [List.getElem_toArray, List.getElem_cons_zero, List.getElem_cons_succ, Act.put, List.setIfInBounds_toArray, List.set_cons_zero, List.set_cons_succ]
    refine wpAnyH_take (i := 9) (v := ?_) rfl (by kernel_rfl) (by kernel_rfl) (by kernel_rfl) (fun _ _ _ h => h) (Or.inl ⟨by rfl, ?_⟩) hS ?_
    rotate_left 1
    · intro w' hSw
      go_simp
      exact if_pos (show (dn : Int) < (n : Int) + 1 by omega)
    try simp only [List.getElem_toArray, List.getElem_cons_zero, List.getElem_cons_succ, Act.put, List.setIfInBounds_toArray, List.set_cons_zero, List.set_cons_succ]
    refine wpAnyH_take (i := 10) (v := ?_) rfl (by kernel_rfl) (by kernel_rfl) (by kernel_rfl) (fun _ _ _ h => h) (Or.inl ⟨by rfl, ?_⟩) hS ?_
    rotate_left 1
    · intro w' hSw
      go_simp <;> with_reducible rfl
    try simp only [List.getElem_toArray, List.getElem_cons_zero, List.getElem_cons_succ, Act.put, List.setIfInBounds_toArray, List.set_cons_zero, List.set_cons_succ]
    refine wpAnyH_take (i := 11) (v := ?_) rfl (by kernel_rfl) (by kernel_rfl) (by kernel_rfl) (fun _ _ _ h => h) (Or.inl ⟨by rfl, ?_⟩) hS ?_
    rotate_left 1
    · intro w' hSw
      go_simp <;> with_reducible rfl
    try simp only [List.getElem_toArray, List.getElem_cons_zero, List.getElem_cons_succ, Act.put, List.setIfInBounds_toArray, List.set_cons_zero, List.set_cons_succ]
    refine wpAnyH_ready (rs := [12]) (by kernel_rfl) (by simp) (AllReadyH.cons rfl (fun K hK => ?_) AllReadyH.nil)
    go_simp
    (with_reducible refine hLt.mono ?_)
    rintro e6 w6 hT6
    obtain ⟨lv6, m6, tg6, rfl, hW6, hls6, hG6⟩ := HWd.out.told hd1 hd2 hT6
    obtain ⟨A6, cap6, rfl⟩ := hls6.form
    have hL6 := hG6.bk HTL5.out HL5.out.drew
    have hS6 := slt_of hW6 hd1 hd2 HDN.out hL6
    have hTk := took_any hW6 hd1 hd2 (setAt_same _ _ _) hls6 HOK.out
    have HL6 := Lib.hid hL6
    have HG6 := Lib.hid hG6
    have HTL6 := Lib.hid (hG6.zero HTL5.out HL5.out.lt)
    clear hT6 hW6 hls6 hG6 hL6 hLt
    go_simp
    refine hK _ _ hS6 (fun hS => ?_)
    clear hK K hS6
    try simp only [List.getElem_toArray, List.getElem_cons_zero, List.getElem_cons_succ, Act.put, List.setIfInBounds_toArray, List.set_cons_zero, List.set_cons_succ]
    refine wpAnyH_ready (rs := [13]) (by kernel_rfl) (by simp) (AllReadyH.cons rfl (fun K hK => ?_) AllReadyH.nil)
    go_simp
    (with_reducible refine hTk.mono ?_)
    rintro _ w7 ⟨rfl, tg7, la7, lv7, dv7, sv7, hW7, hG7⟩
    have hS7 := slt_of hW7 hd1 hd2 HDN.out (hG7.bk HTL6.out HL6.out)
    have HW7 := Lib.hid hW7
    have HG7 := Lib.hid hG7
    clear hW7 hG7 hTk
    go_simp
    refine hK _ _ hS7 (fun hS => ?_)
    clear hK K hS7
    try simp only [List.getElem_toArray, List.getElem_cons_zero, List.getElem_cons_succ, Act.put, List.setIfInBounds_toArray, List.set_cons_zero, List.set_cons_succ]
    refine wpAnyH_take (i := 14) (v := ?_) rfl (by kernel_rfl) (by kernel_rfl) (by kernel_rfl) (fun _ _ _ h => h) (Or.inl ⟨by rfl, ?_⟩) hS ?_
    rotate_left 1
    · intro w' hSw
      go_simp <;> with_reducible rfl
    try simp only [List.getElem_toArray, List.getElem_cons_zero, List.getElem_cons_succ, Act.put, List.setIfInBounds_toArray, List.set_cons_zero, List.set_cons_succ]
    refine wpAnyH_done (by kernel_rfl) ?_ _
    go_wp2_with fail
    go_ret
    exact ⟨rfl, tg7, _, _, _, HW7.out, HST.out, (Goes.of_below HB4.out).trans (HG5.out.trans ((Goes.of_below (below_drew _)).trans (HG6.out.trans HG7.out))), rfl, by have := HLE.out; have := HNL.out; show (net5 ++ cT.out).length ≤ _; rw [List.length_append]; omega⟩
end
end Go.Proofs.Ythfofnfkopnbhaa


