/- raft, the law's world: move: something is proposed. -/
import Derived.Test.YthfofnfkopnbhaaZE
namespace Go.Proofs.Ythfofnfkopnbhaa
open Go.RowKit Go.Maps Go.ChangeMaps
set_option linter.unusedVariables false
set_option linter.unusedSimpArgs false
set_option linter.unusedSectionVars false
set_option maxRecDepth 100000

theorem prop_after {w6 : World} {n : Nat} {tg6 : Nat → Int} {y6 : Ly} {prs6 : Int → Pr En} {k : Kp} {s L0 : Nat} {cT : Cs En} {L : List En} {e : En} (h : WmAt w6 n tg6 y6 prs6 (tookK k s cT)) (h1 : 1 ≤ s) (h2 : s ≤ n) (hlog : cT.p.log = L ++ [e]) (hL : L.length = L0) :
    ∃ a c, w6.cell? ⟨y6.WB, 4, none⟩ = some (.slice (some ⟨y6.lb, 0, none⟩) (n + 1) (n + 1)) ∧ w6.cell? ⟨y6.lb, s, none⟩ = some (.slice (some a) (L0 + 1) c) ∧ w6.cell? ⟨(a.add (L0 * 6)).block, (a.add (L0 * 6)).off + 2, none⟩ = some (.int .i64 e.ver) := by
  have hc := (h.lk (fun h => h)).cell h1 h2 trivial
  have he := h.en s h1 h2
  have hk : (tookK k s cT).L s = L ++ [e] := by rw [← hlog]; exact setAt_same _ _ _
  rw [hk] at he hc
  have hlen : (L ++ [e]).length = L0 + 1 := by rw [List.length_append, hL]; rfl
  rw [hlen] at hc
  obtain ⟨a, x, D', d', hA, _, hx, hce, _⟩ := he.at_ (k := L0) (by rw [hlen]; omega)
  obtain ⟨a0, a1, a2, a3, a4, a5⟩ := en6 hce
  rw [hA] at hc
  have hxe : x = e := by
    have := hx.out
    rw [List.getElem?_append_right (by omega)] at this
    simp [hL] at this
    exact this.symm
  rw [hxe] at a2
  exact ⟨a, _, h.cells.2.2.2.2.1, hc, a2⟩
/-- What the region of Propose reads. -/
abbrev SPr (w : World) (y : Ly) (n s EB : Nat) (v : Int) : Prop :=
  w.cell? ⟨y.WB, 1, none⟩ = some (.slice (some ⟨y.pb, 0, none⟩) (n + 1) (n + 1)) ∧ w.cell? ⟨y.pb, s, none⟩ = some (.pointer (some ⟨y.P s, 0, none⟩)) ∧ w.cell? ⟨EB, 0, none⟩ = some (.int .i64 0) ∧ w.cell? ⟨EB, 1, none⟩ = some (.int .u8 3) ∧ w.cell? ⟨EB, 2, none⟩ = some (.int .i64 v) ∧ w.cell? ⟨EB, 3, none⟩ = some (.int .i64 0) ∧ w.cell? ⟨EB, 4, none⟩ = some (.bool false) ∧ w.cell? ⟨EB, 5, none⟩ = some (.slice none 0 0)
theorem SPr.below {w w' : World} {y : Ly} {n s EB : Nat} {v : Int} (h : SPr w y n s EB v) {B : Nat} (hb : Below B w w') (hB : B = w.heap.size) : SPr w' y n s EB v := by
  subst hB
  have t : ∀ {p : Addr} {v : Value}, w.cell? p = some v → w'.cell? p = some v := fun {p v} hp => (World.cell?_of_block (hb.block p.block (World.block_lt_of_cell? w _ hp))).trans hp
  obtain ⟨h1, h2, h3, h4, h5, h6, h7, h8⟩ := h
  exact ⟨t h1, t h2, t h3, t h4, t h5, t h6, t h7, t h8⟩
theorem SPr.far {w : World} {y : Ly} {n s EB : Nat} {v : Int} (h : SPr w y n s EB v) {b i : Nat} {u : Value} (hn : b ≠ y.WB ∧ b ≠ y.pb ∧ b ≠ EB) : SPr (w.setCell ⟨b, i, none⟩ u) y n s EB v := by
  have t : ∀ {p : Addr} {v : Value}, b ≠ p.block → w.cell? p = some v → (w.setCell ⟨b, i, none⟩ u).cell? p = some v := fun {p v} hn hp => (World.cell?_setCell_far w ⟨b, i, none⟩ p u hn).trans hp
  obtain ⟨h1, h2, h3, h4, h5, h6, h7, h8⟩ := h
  exact ⟨t hn.1 h1, t hn.2.1 h2, t hn.2.2 h3, t hn.2.2 h4, t hn.2.2 h5, t hn.2.2 h6, t hn.2.2 h7, t hn.2.2 h8⟩
section
variable {w w' : World} {n j : Nat} {tg : Nat → Int} {y : Ly} {prs : Int → Pr En} {k : Kp} {mk ms mn : Int}
/-- What is proposed. -/
def propE (v : Int) : En := ⟨0, 3, v, 0, false, []⟩
set_option maxHeartbeats 4000000 in
theorem move_propose (h : WmAt w n tg y prs k) (hr : RW n j prs k) (hj : j ≤ 400) (hnl : k.net.length ≤ 400) (hq : 10 ≤ pickV mk 12) :
    Calls Try.prog 8 #[.pointer (some ⟨y.WB, 0, none⟩), mvV mk ms mn] w fun e w' => e = .returned (.bool true) ∧ MvPost n j tg y k w w' := by
  obtain ⟨w1, hw1⟩ : ∃ w1, w1 = w.alloc (.cells #[.int .i64 mk, .int .i64 ms, .int .i64 mn] 29) := ⟨_, rfl⟩
  have hmb : Bk w1 w.heap.size 29 [.int .i64 mk, .int .i64 ms, .int .i64 mn] := by rw [hw1]; exact Bk.new w _ _
  have hb1 : Below w.heap.size w w1 := by rw [hw1]; exact (Below.refl _ _).alloc (Nat.le_refl _) _
  have hW1 := h.below (fun h => h) hb1
  have hMB : tg w.heap.size = 0 := Classical.byContradiction fun e => by have := h.lt _ e; omega
  have hn1 := h.n1
  have hn7 := h.n7
  obtain ⟨hp1, hp2⟩ := pickV_in ms (show (1 : Int) ≤ (n : Int) by omega)
  obtain ⟨s0, hs0⟩ : ∃ s0 : Nat, pickV ms n = s0 := ⟨(pickV ms n).toNat, by omega⟩
  have hs0n : s0 < n := by omega
  have hPk1 : ∀ q, Calls Try.prog 7 #[.int .i64 ms, .int .i64 n] (w1.drewN q) fun e w' => e = .returned (.int .i64 s0) ∧ w' = w1.drewN q := fun q => by rw [← hs0]; exact pick_is ms n _ (by omega) (by omega)
  obtain ⟨q0, hq0⟩ : ∃ q0, pickV mk 12 = q0 := ⟨_, rfl⟩
  have hPk2 : ∀ W, Calls Try.prog 7 #[.int .i64 mk, .int .i64 12] W fun e w' => e = .returned (.int .i64 q0) ∧ W = w' := fun W => by rw [← hq0]; exact (pick_is mk 12 _ (by decide) (by decide)).mono (fun e w' h => ⟨h.1, h.2.symm⟩)
  have hq1 := pickV_in mk (show (1 : Int) ≤ 12 by decide)
  rw [hq0] at hq1 hq
  obtain ⟨b0, b1, b2, b3, b4, b5, b6, b7⟩ := hW1.cells
  have m0 : w1.cell? ⟨w.heap.size, 0, none⟩ = some (.int .i64 mk) := hmb.cell 0
  have m1 : w1.cell? ⟨w.heap.size, 1, none⟩ = some (.int .i64 ms) := hmb.cell 1
  have m2 : w1.cell? ⟨w.heap.size, 2, none⟩ = some (.int .i64 mn) := hmb.cell 2
  have HW1 := Lib.hid hW1
  have HMB := Lib.hid hmb
  have HB1 := Lib.hid hb1
  have HTM := Lib.hid hMB
  have HR := Lib.hid hr
  clear h hmb hb1 hW1 hMB hp1 hp2 hs0 hq0 hr
  go_enter Try.func8, Try.ntmps8
  unfold mvV
  go_upto_region 1 with (fail)
  rw [← hw1]
  clear hw1
  go_quiet ((go_at_call 7; exact Calls.quiet_of_same (hPk1 _)))
  rw [show (1 : Int) + (s0 : Int) = ((s0 + 1 : Nat) : Int) by omega]
  obtain ⟨s, hs⟩ : ∃ s, s0 + 1 = s := ⟨_, rfl⟩
  rw [hs]
  have h1 : 1 ≤ s := by omega
  have h2 : s ≤ n := by omega
  clear hs hs0n hPk1
  have hIn : In n (s : Int) := ⟨by omega, by omega⟩
  have HIn := Lib.hid hIn
  clear hIn
  go_upto_region 2 with (fail)
  have hb2 : Below w.heap.size w (w1.drewN nq) := HB1.out.trans ⟨rfl, rfl, rfl, Nat.le_refl _, fun _ _ => rfl⟩
  have hW2 : WmAt (w1.drewN nq) n tg y prs k := HW1.out.below (fun h => h) ⟨rfl, rfl, rfl, Nat.le_refl _, fun _ _ => rfl⟩
  have hM2 : Bk (w1.drewN nq) w.heap.size 29 [.int .i64 mk, .int .i64 ms, .int .i64 mn] := HMB.out
  clear b0 b1 b2 b3 b4 b5 b6 b7 m0 m1 m2
  generalize w1.drewN nq = w2 at *
  clear HW1 HMB HB1
  have HW2 := Lib.hid hW2
  have HM2 := Lib.hid hM2
  have HB2 := Lib.hid hb2
  obtain ⟨b0, b1, b2, b3, b4, b5, b6, b7⟩ := hW2.cells
  have m0 : w2.cell? ⟨w.heap.size, 0, none⟩ = some (.int .i64 mk) := hM2.cell 0
  have m1 : w2.cell? ⟨w.heap.size, 1, none⟩ = some (.int .i64 ms) := hM2.cell 1
  have m2 : w2.cell? ⟨w.heap.size, 2, none⟩ = some (.int .i64 mn) := hM2.cell 2
  have cp := (hW2.pk (fun h => h)).cell h1 h2 (fun h => h)
  clear hW2 hM2 hb2
  have d1 : decide (q0 ≤ 2) = false := decide_eq_false (by omega)
  have d2 : decide (q0 ≤ 8) = false := decide_eq_false (by omega)
  have d3 : (q0 == 9) = false := by simp; omega
  obtain ⟨p9, hp9⟩ : ∃ p9, pickV mn 9 = p9 := ⟨_, rfl⟩
  have hPk9 : ∀ W, Calls Try.prog 7 #[.int .i64 mn, .int .i64 9] W fun e w' => e = .returned (.int .i64 p9) ∧ W = w' := fun W => by rw [← hp9]; exact (pick_is mn 9 _ (by decide) (by decide)).mono (fun e w' h => ⟨h.1, h.2.symm⟩)
  have h9 := pickV_in mn (show (1 : Int) ≤ 9 by decide)
  rw [hp9] at h9
  clear hp9
  go_upto_region 19 with (first | (go_at_call 7; (with_reducible refine (hPk2 _).mono ?_); rintro _ wx ⟨rfl, rfl⟩) | (go_at_call 7; (with_reducible refine (hPk9 _).mono ?_); rintro _ wx ⟨rfl, rfl⟩))
  have hbk : Bk (w2.alloc (.cells #[.int .i64 0, .int .u8 3, .int .i64 (1 + p9), .int .i64 0, .bool false, .slice none 0 0] 44)) w2.heap.size 44 (enV (propE (1 + p9)) none 0) := Bk.new w2 _ _
  have hb3 : Below w2.heap.size w2 (w2.alloc (.cells #[.int .i64 0, .int .u8 3, .int .i64 (1 + p9), .int .i64 0, .bool false, .slice none 0 0] 44)) := (Below.refl _ _).alloc (Nat.le_refl _) _
  have hW3 := HW2.out.below (fun h => h) hb3
  have hG3 : Goes tg tg w (w2.alloc (.cells #[.int .i64 0, .int .u8 3, .int .i64 (1 + p9), .int .i64 0, .bool false, .slice none 0 0] 44)) := (Goes.of_below HB2.out).trans (Goes.of_below hb3)
  have hEB : tg w2.heap.size = 0 := Classical.byContradiction fun e => by have := HW2.out.lt _ e; omega
  clear b0 b1 b2 b3 b4 b5 b6 b7 m0 m1 m2 cp hb3
  obtain ⟨EB, hEBe⟩ : ∃ EB, w2.heap.size = EB := ⟨_, rfl⟩
  rw [hEBe] at hbk hEB ⊢
  generalize (w2.alloc (.cells #[.int .i64 0, .int .u8 3, .int .i64 (1 + p9), .int .i64 0, .bool false, .slice none 0 0] 44)) = w3 at *
  clear hEBe HM2 HTM HB2 HW2
  have HW3 := Lib.hid hW3
  have HG3 := Lib.hid hG3
  have HE3 := Lib.hid hbk
  have HTE := Lib.hid hEB
  obtain ⟨b0, b1, b2, b3, b4, b5, b6, b7⟩ := hW3.cells
  have cp := (hW3.pk (fun h => h)).cell h1 h2 (fun h => h)
  have hok := HR.out.ok HIn.out (by omega) (by omega)
  have hpe : PeA w3 (y.P s) n s (y.m s) (fun _ => False) ⟨prs s, y.frm s, []⟩ := hW3.pe s h1 h2 (fun h => h)
  obtain ⟨gg, hgg⟩ := HR.out.inv
  have hC0 : 0 ≤ (prs s).C := hgg.cpos s HIn.out
  have hC1 : (prs s).C ≤ (prs s).log.length := by
    rcases hgg.inv.com s HIn.out with e | ⟨t, kk, _, _, _, e, _⟩
    · have e : (prs s).C.toNat = 0 := e
      omega
    · have e : (prs s).C.toNat ≤ (prs s).log.length := e
      omega
  have hPr := fun (W : World) (hb : Below w3.heap.size w3 W) => propose_any (w := W) (propE (1 + p9)) none 0 (fun _ => False) (hpe.below hb) hok hC0 hC1 ⟨fun _ => rfl, fun h => absurd rfl h⟩ (fun b h => h.elim) (Nat.zero_le _)
  obtain ⟨cT, hcT⟩ : ∃ cT, proposeP En.term n s { propE (1 + p9) with term := (prs s).T } ⟨prs s, 0, []⟩ = cT := ⟨_, rfl⟩
  dsimp only at hPr
  simp only [hcT] at hPr
  obtain ⟨L0, hL0⟩ : ∃ L0, (prs s).log.length = L0 := ⟨_, rfl⟩
  simp only [hL0] at hPr
  have HCT := Lib.hid hcT
  have HL0 := Lib.hid hL0
  clear hcT hL0
  simp only [enA, enV, propE, List.length_nil] at hPr
  have hS0 : SPr w3.drew y n s EB (1 + p9) := ⟨b1, cp, hbk.cell 0, hbk.cell 1, hbk.cell 2, hbk.cell 3, hbk.cell 4, hbk.cell 5⟩
  clear b0 b1 b2 b3 b4 b5 b6 b7 cp hpe hok hgg hW3 hbk
  have HPR := Lib.hid hPr
  clear hPr
  have hHTO : tg w3.heap.size = 0 := Classical.byContradiction fun e => by have := HW3.out.lt _ e; omega
  have HTO := Lib.hid hHTO
  have hne : w3.heap.size ≠ y.WB ∧ w3.heap.size ≠ y.pb ∧ w3.heap.size ≠ EB := ⟨fun e => by have := (HW3.out.wb (fun h => h)).lt; omega, fun e => by have := (HW3.out.pk (fun h => h)).lt; omega, fun e => by have := HE3.out.lt; omega⟩
  have HNE := Lib.hid hne
  clear hHTO hne
  by_cases hpe0 : propErr ⟨prs s, y.frm s, []⟩ (propE (1 + p9)) = 0
  · have HER := Lib.hid hpe0
    clear hpe0
    go_cut [10, 11, 12] (fun a b c wx => a = .int .i64 ((L0 : Int) + 1) ∧ c = .int .i64 0 ∧ ∃ (OB : Nat) (m4 : Pm) (tg4 : Nat → Int) (A4 : Option Addr) (cap4 : Nat), b = .pointer (some ⟨OB, 0, none⟩) ∧ Hid (WmAt wx n tg4 { y with m := setAt y.m s m4, frm := setAt y.frm s cT.frm } (setAt prs s cT.p) k) ∧ Hid (Goes tg tg4 w3 wx) ∧ Hid (Bk wx OB 48 [.int .i64 cT.p.T, .int .i64 cT.p.V, .int .i64 cT.frm, .int .i64 cT.p.C, .slice A4 cT.out.length cap4]) ∧ Hid (Bk wx EB 44 (enV (propE (1 + p9)) none 0)) ∧ Hid (tg4 EB = 0) ∧ Hid (LsAt wx (fun b => tg4 b = 100) (.slice A4 cT.out.length cap4) cT.out))
    case first =>
      as_aux_lemma =>
      refine wp_region_held_drew (S := fun w' => SPr w' y n s EB (1 + p9)) (by kernel_rfl) hS0 (fun hS => ?_)
      clear hS0
      refine wpAnyH_take (i := 0) (v := ?_) rfl (by kernel_rfl) (by kernel_rfl) (by kernel_rfl) (fun _ _ _ h => h) (Or.inl ⟨by rfl, ?_⟩) hS ?_
      rotate_left 1
      · intro w' hSw
        go_simp <;> with_reducible rfl
      try simp only [List.getElem_toArray, List.getElem_cons_zero, List.getElem_cons_succ, Act.put, List.setIfInBounds_toArray, List.set_cons_zero, List.set_cons_succ]
      refine wpAnyH_take (i := 1) (v := ?_) rfl (by kernel_rfl) (by kernel_rfl) (by kernel_rfl) (fun _ _ _ h => h) (Or.inl ⟨by rfl, ?_⟩) hS ?_
      rotate_left 1
      · intro w' hSw
        go_simp <;> with_reducible rfl
      try simp only [List.getElem_toArray, List.getElem_cons_zero, List.getElem_cons_succ, Act.put, List.setIfInBounds_toArray, List.set_cons_zero, List.set_cons_succ]
      refine wpAnyH_take (i := 2) (v := ?_) rfl (by kernel_rfl) (by kernel_rfl) (by kernel_rfl) (fun _ _ _ h => h) (Or.inl ⟨by rfl, ?_⟩) hS ?_
      rotate_left 1
      · intro w' hSw
        go_simp <;> with_reducible rfl
      try simp only [List.getElem_toArray, List.getElem_cons_zero, List.getElem_cons_succ, Act.put, List.setIfInBounds_toArray, List.set_cons_zero, List.set_cons_succ]
      refine wpAnyH_take (i := 3) (v := ?_) rfl (by kernel_rfl) (by kernel_rfl) (by kernel_rfl) (fun _ _ _ h => h) (Or.inl ⟨by rfl, ?_⟩) hS ?_
      rotate_left 1
      · intro w' hSw
        go_simp <;> with_reducible rfl
      try simp only [List.getElem_toArray, List.getElem_cons_zero, List.getElem_cons_succ, Act.put, List.setIfInBounds_toArray, List.set_cons_zero, List.set_cons_succ]
      refine wpAnyH_take (i := 4) (v := ?_) rfl (by kernel_rfl) (by kernel_rfl) (by kernel_rfl) (fun _ _ _ h => h) (Or.inl ⟨by rfl, ?_⟩) hS ?_
      rotate_left 1
      · intro w' hSw
        go_simp <;> with_reducible rfl
      try simp only [List.getElem_toArray, List.getElem_cons_zero, List.getElem_cons_succ, Act.put, List.setIfInBounds_toArray, List.set_cons_zero, List.set_cons_succ]
      refine wpAnyH_take (i := 5) (v := ?_) rfl (by kernel_rfl) (by kernel_rfl) (by kernel_rfl) (fun _ _ _ h => h) (Or.inl ⟨by rfl, ?_⟩) hS ?_
      rotate_left 1
      · intro w' hSw
        go_simp
        exact if_pos (show (s : Int) < (n : Int) + 1 by omega)
      try simp only [List.getElem_toArray, List.getElem_cons_zero, List.getElem_cons_succ, Act.put, List.setIfInBounds_toArray, List.set_cons_zero, List.set_cons_succ]
      refine wpAnyH_take (i := 6) (v := ?_) rfl (by kernel_rfl) (by kernel_rfl) (by kernel_rfl) (fun _ _ _ h => h) (Or.inl ⟨by rfl, ?_⟩) hS ?_
      rotate_left 1
      · intro w' hSw
        go_simp <;> with_reducible rfl
      try simp only [List.getElem_toArray, List.getElem_cons_zero, List.getElem_cons_succ, Act.put, List.setIfInBounds_toArray, List.set_cons_zero, List.set_cons_succ]
      refine wpAnyH_take (i := 7) (v := ?_) rfl (by kernel_rfl) (by kernel_rfl) (by kernel_rfl) (fun _ _ _ h => h) (Or.inl ⟨by rfl, ?_⟩) hS ?_
      rotate_left 1
      · intro w' hSw
        go_simp <;> with_reducible rfl
      try simp only [List.getElem_toArray, List.getElem_cons_zero, List.getElem_cons_succ, Act.put, List.setIfInBounds_toArray, List.set_cons_zero, List.set_cons_succ]
      refine wpAnyH_ready (rs := [8, 13]) (by kernel_rfl) (by simp) (AllReadyH.cons rfl (fun K hK => ?_) (AllReadyH.cons rfl (fun K hK => ?_) AllReadyH.nil))
      · skip
        go_simp
        (with_reducible refine (HPR.out _ (below_drew w3)).mono ?_)
        rintro x4 w4 hx4
        obtain ⟨-, lv4, rfl, hT4⟩ := hx4.resolve_left (fun q => q.1 HER.out)
        obtain ⟨lv4', m4, tg4, hlv, hW4, hls4, hG4⟩ := (HW3.out.below (fun h => h) (below_drew w3)).told h1 h2 hT4
        obtain rfl : lv4 = lv4' := by
          injection hlv with hlv
          unfold outV at hlv
          injection hlv with hlv
          have := congrArg (fun a => a[4]?) hlv
          simpa using this
        obtain ⟨A4, cap4, rfl⟩ := hls4.form
        have hE4 := hG4.bk HTE.out (HE3.out.below (below_drew w3) HE3.out.lt)
        have hT4E : tg4 EB = 0 := hG4.zero HTE.out (Nat.lt_of_lt_of_le HE3.out.lt (Nat.le_refl _))
        have hS4 : SPr w4 y n s EB (1 + p9) := ⟨hW4.cells.2.1, (hW4.pk (fun h => h)).cell h1 h2 (fun h => h), hE4.cell 0, hE4.cell 1, hE4.cell 2, hE4.cell 3, hE4.cell 4, hE4.cell 5⟩
        have HS4 := Lib.hid hS4
        have HW4 := Lib.hid hW4
        have HG4 := Lib.hid ((Goes.of_below (tg := tg) (below_drew w3)).trans hG4)
        have HE4 := Lib.hid hE4
        have HT4E := Lib.hid hT4E
        have HLS4 := Lib.hid hls4
        clear hx4 hT4 hlv hW4 hG4 hls4 hE4 hT4E
        unfold outV
        go_simp
        refine hK _ _ hS4 (fun hS => ?_)
        clear hK K hS4
        try simp only [List.getElem_toArray, List.getElem_cons_zero, List.getElem_cons_succ, Act.put, List.setIfInBounds_toArray, List.set_cons_zero, List.set_cons_succ]
        refine wpAnyH_take (i := 9) (v := ?_) rfl (by kernel_rfl) (by kernel_rfl) (by kernel_rfl) (fun _ _ _ h => h) (Or.inl ⟨by rfl, ?_⟩) hS ?_
        rotate_left 1
        · intro w' hSw
          go_simp <;> with_reducible rfl
        try simp only [List.getElem_toArray, List.getElem_cons_zero, List.getElem_cons_succ, Act.put, List.setIfInBounds_toArray, List.set_cons_zero, List.set_cons_succ]
        refine wpAnyH_take (i := 10) (v := ?_) rfl (by kernel_rfl) (by kernel_rfl) (by kernel_rfl) (fun _ _ _ h => h) (Or.inl ⟨by rfl, ?_⟩) hS ?_
        rotate_left 1
        · intro w' hSw
          go_simp <;> with_reducible rfl
        try simp only [List.getElem_toArray, List.getElem_cons_zero, List.getElem_cons_succ, Act.put, List.setIfInBounds_toArray, List.set_cons_zero, List.set_cons_succ]
        refine wpAnyH_take (i := 11) (v := ?_) rfl (by kernel_rfl) (by kernel_rfl) (by kernel_rfl) (fun _ _ _ h => h) (Or.inl ⟨by rfl, ?_⟩) hS ?_
        rotate_left 1
        · intro w' hSw
          go_simp <;> with_reducible rfl
        try simp only [List.getElem_toArray, List.getElem_cons_zero, List.getElem_cons_succ, Act.put, List.setIfInBounds_toArray, List.set_cons_zero, List.set_cons_succ]
        refine wpAnyH_take (i := 12) (v := ?_) rfl (by kernel_rfl) (by kernel_rfl) (by kernel_rfl) (fun _ _ _ h => h) (Or.inl ⟨by rfl, ?_⟩) hS ?_
        rotate_left 1
        · intro w' hSw
          go_simp <;> with_reducible rfl
        try simp only [List.getElem_toArray, List.getElem_cons_zero, List.getElem_cons_succ, Act.put, List.setIfInBounds_toArray, List.set_cons_zero, List.set_cons_succ]
        refine wpAnyH_ready (rs := [13]) (by kernel_rfl) (by simp) (AllReadyH.cons rfl (fun K hK => ?_) AllReadyH.nil)
        go_simp
        refine hK _ _ (hS.below ((Below.refl _ _).alloc (Nat.le_refl _) _) rfl) (fun hS => ?_)
        clear hK K
        try simp only [List.getElem_toArray, List.getElem_cons_zero, List.getElem_cons_succ, Act.put, List.setIfInBounds_toArray, List.set_cons_zero, List.set_cons_succ]
        refine wpAnyH_take (i := 14) (v := ?_) rfl (by kernel_rfl) (by kernel_rfl) (by kernel_rfl) (fun _ _ _ h => h) (Or.inl ⟨by rfl, ?_⟩) hS ?_
        rotate_left 1
        · intro w' hSw
          go_simp <;> with_reducible rfl
        try simp only [List.getElem_toArray, List.getElem_cons_zero, List.getElem_cons_succ, Act.put, List.setIfInBounds_toArray, List.set_cons_zero, List.set_cons_succ]
        refine wpAnyH_ready (rs := [15]) (by kernel_rfl) (by simp) (AllReadyH.cons rfl (fun K hK => ?_) AllReadyH.nil)
        go_simp
        refine hK _ _ (HS4.out.below ((Below.refl _ _).alloc (Nat.le_refl _) _) rfl) (fun hS => ?_)
        clear hK K
        try simp only [List.getElem_toArray, List.getElem_cons_zero, List.getElem_cons_succ, Act.put, List.setIfInBounds_toArray, List.set_cons_zero, List.set_cons_succ]
        refine wpAnyH_take (i := 16) (v := ?_) rfl (by kernel_rfl) (by kernel_rfl) (by kernel_rfl) (fun _ _ _ h => h) (Or.inl ⟨by rfl, ?_⟩) hS ?_
        rotate_left 1
        · intro w' hSw
          go_simp <;> with_reducible rfl
        try simp only [List.getElem_toArray, List.getElem_cons_zero, List.getElem_cons_succ, Act.put, List.setIfInBounds_toArray, List.set_cons_zero, List.set_cons_succ]
        refine wpAnyH_done (by kernel_rfl) ?_ _
        have hb5 : Below w4.heap.size w4 (w4.alloc (.cells #[.int .i64 cT.p.T, .int .i64 cT.p.V, .int .i64 cT.frm, .int .i64 cT.p.C, .slice A4 cT.out.length cap4] 48)) := (Below.refl _ _).alloc (Nat.le_refl _) _
        go_wp2_with fail
        go_meet
        exact ⟨rfl, rfl, _, m4, tg4, A4, cap4, rfl, Lib.hid (HW4.out.below (fun h => h) hb5), Lib.hid (HG4.out.trans (Goes.of_below hb5)), Lib.hid (Bk.new _ _ _), Lib.hid (HE4.out.below hb5 HE4.out.lt), HT4E, Lib.hid (HLS4.out.keep (fun b hb => hb5.block b (HW4.out.lt b (by have hb : tg4 b = 100 := hb; omega))) (fun _ h => h))⟩
      · skip
        go_simp
        have HOB : Hid (Bk (w3.alloc (.cells #[.int .i64 0, .int .i64 0, .int .i64 0, .int .i64 0, .slice none 0 0] 48)).drew w3.heap.size 48 [.int .i64 0, .int .i64 0, .int .i64 0, .int .i64 0, .slice none 0 0]) := Lib.hid (Bk.new w3 _ _)
        refine hK _ _ (hS.below ((Below.refl _ _).alloc (Nat.le_refl _) _) rfl) (fun hS => ?_)
        clear hK K
        try simp only [List.getElem_toArray, List.getElem_cons_zero, List.getElem_cons_succ, Act.put, List.setIfInBounds_toArray, List.set_cons_zero, List.set_cons_succ]
        refine wpAnyH_ready (rs := [8]) (by kernel_rfl) (by simp) (AllReadyH.cons rfl (fun K hK => ?_) AllReadyH.nil)
        go_simp
        (with_reducible refine (HPR.out _ ((Below.refl w3.heap.size w3).alloc (Nat.le_refl _) _).drew).mono ?_)
        rintro x4 w4 hx4
        obtain ⟨-, lv4, rfl, hT4⟩ := hx4.resolve_left (fun q => q.1 HER.out)
        obtain ⟨lv4', m4, tg4, hlv, hW4, hls4, hG4⟩ := (HW3.out.below (fun h => h) ((Below.refl w3.heap.size w3).alloc (Nat.le_refl _) _).drew).told h1 h2 hT4
        obtain rfl : lv4 = lv4' := by
          injection hlv with hlv
          unfold outV at hlv
          injection hlv with hlv
          have := congrArg (fun a => a[4]?) hlv
          simpa using this
        obtain ⟨A4, cap4, rfl⟩ := hls4.form
        have hE4 := hG4.bk HTE.out (HE3.out.below ((Below.refl w3.heap.size w3).alloc (Nat.le_refl _) _).drew HE3.out.lt)
        have hT4E : tg4 EB = 0 := hG4.zero HTE.out (Nat.lt_of_lt_of_le HE3.out.lt (by simp))
        have hS4 : SPr w4 y n s EB (1 + p9) := ⟨hW4.cells.2.1, (hW4.pk (fun h => h)).cell h1 h2 (fun h => h), hE4.cell 0, hE4.cell 1, hE4.cell 2, hE4.cell 3, hE4.cell 4, hE4.cell 5⟩
        have HS4 := Lib.hid hS4
        have HW4 := Lib.hid hW4
        have HG4 := Lib.hid ((Goes.of_below (tg := tg) ((Below.refl w3.heap.size w3).alloc (Nat.le_refl _) _).drew).trans hG4)
        have HE4 := Lib.hid hE4
        have HT4E := Lib.hid hT4E
        have HLS4 := Lib.hid hls4
        have hOB := hG4.bk HTO.out HOB.out
        obtain ⟨z0, z1, z2, z3, z4⟩ := cells5 hOB
        have zf := hOB.frozen
        have HOB4 := Lib.hid hOB
        have HTO4 := Lib.hid (hG4.zero HTO.out HOB.out.lt)
        clear hOB
        clear hx4 hT4 hlv hW4 hG4 hls4 hE4 hT4E
        unfold outV
        go_simp
        refine hK _ _ hS4 (fun hS => ?_)
        clear hK K hS4
        try simp only [List.getElem_toArray, List.getElem_cons_zero, List.getElem_cons_succ, Act.put, List.setIfInBounds_toArray, List.set_cons_zero, List.set_cons_succ]
        refine wpAnyH_take (i := 9) (v := ?_) rfl (by kernel_rfl) (by kernel_rfl) (by kernel_rfl) (fun _ _ _ h => h) (Or.inl ⟨by rfl, ?_⟩) hS ?_
        rotate_left 1
        · intro w' hSw
          go_simp <;> with_reducible rfl
        try simp only [List.getElem_toArray, List.getElem_cons_zero, List.getElem_cons_succ, Act.put, List.setIfInBounds_toArray, List.set_cons_zero, List.set_cons_succ]
        refine wpAnyH_take (i := 10) (v := ?_) rfl (by kernel_rfl) (by kernel_rfl) (by kernel_rfl) (fun _ _ _ h => h) (Or.inl ⟨by rfl, ?_⟩) hS ?_
        rotate_left 1
        · intro w' hSw
          go_simp <;> with_reducible rfl
        try simp only [List.getElem_toArray, List.getElem_cons_zero, List.getElem_cons_succ, Act.put, List.setIfInBounds_toArray, List.set_cons_zero, List.set_cons_succ]
        refine wpAnyH_take (i := 11) (v := ?_) rfl (by kernel_rfl) (by kernel_rfl) (by kernel_rfl) (fun _ _ _ h => h) (Or.inl ⟨by rfl, ?_⟩) hS ?_
        rotate_left 1
        · intro w' hSw
          go_simp <;> with_reducible rfl
        try simp only [List.getElem_toArray, List.getElem_cons_zero, List.getElem_cons_succ, Act.put, List.setIfInBounds_toArray, List.set_cons_zero, List.set_cons_succ]
        refine wpAnyH_take (i := 12) (v := ?_) rfl (by kernel_rfl) (by kernel_rfl) (by kernel_rfl) (fun _ _ _ h => h) (Or.inl ⟨by rfl, ?_⟩) hS ?_
        rotate_left 1
        · intro w' hSw
          go_simp <;> with_reducible rfl
        try simp only [List.getElem_toArray, List.getElem_cons_zero, List.getElem_cons_succ, Act.put, List.setIfInBounds_toArray, List.set_cons_zero, List.set_cons_succ]
        refine wpAnyH_take (i := 14) (v := ?_) rfl (by kernel_rfl) (by kernel_rfl) (by kernel_rfl) (fun _ _ _ h => h) (Or.inl ⟨by rfl, ?_⟩) hS ?_
        rotate_left 1
        · intro w' hSw
          go_simp <;> with_reducible rfl
        try simp only [List.getElem_toArray, List.getElem_cons_zero, List.getElem_cons_succ, Act.put, List.setIfInBounds_toArray, List.set_cons_zero, List.set_cons_succ]
        refine wpAnyH_ready (rs := [15]) (by kernel_rfl) (by simp) (AllReadyH.cons rfl (fun K hK => ?_) AllReadyH.nil)
        go_simp
        refine hK _ _ (((((HS4.out.far HNE.out).far HNE.out).far HNE.out).far HNE.out).far HNE.out) (fun hS => ?_)
        clear hK K
        try simp only [List.getElem_toArray, List.getElem_cons_zero, List.getElem_cons_succ, Act.put, List.setIfInBounds_toArray, List.set_cons_zero, List.set_cons_succ]
        refine wpAnyH_take (i := 16) (v := ?_) rfl (by kernel_rfl) (by kernel_rfl) (by kernel_rfl) (fun _ _ _ h => h) (Or.inl ⟨by rfl, ?_⟩) hS ?_
        rotate_left 1
        · intro w' hSw
          go_simp <;> with_reducible rfl
        try simp only [List.getElem_toArray, List.getElem_cons_zero, List.getElem_cons_succ, Act.put, List.setIfInBounds_toArray, List.set_cons_zero, List.set_cons_succ]
        refine wpAnyH_done (by kernel_rfl) ?_ _
        have ha5 := ag5 w4 w3.heap.size (.int .i64 cT.p.T) (.int .i64 cT.p.V) (.int .i64 cT.frm) (.int .i64 cT.p.C) (.slice A4 cT.out.length cap4)
        have hb5 := bk5 HOB4.out (.int .i64 cT.p.T) (.int .i64 cT.p.V) (.int .i64 cT.frm) (.int .i64 cT.p.C) (.slice A4 cT.out.length cap4)
        go_wp2_with fail
        go_meet
        generalize (((((w4.setCell ⟨w3.heap.size, 0, none⟩ (.int .i64 cT.p.T)).setCell ⟨w3.heap.size, 1, none⟩ (.int .i64 cT.p.V)).setCell ⟨w3.heap.size, 2, none⟩ (.int .i64 cT.frm)).setCell ⟨w3.heap.size, 3, none⟩ (.int .i64 cT.p.C)).setCell ⟨w3.heap.size, 4, none⟩ (.slice A4 cT.out.length cap4)) = w5 at *
        have hnz : ∀ b, tg4 b ≠ 0 → b ≠ w3.heap.size := fun b e e2 => e (by rw [e2]; exact HTO4.out)
        have hW5 := HW4.out.to_ (w' := w5) (tg' := tg4) (fun _ => False) (fun _ h => h) (fun h => h) (ha5.mono (fun b _ hb => hnz b hb.1)) (fun _ _ _ => rfl) (fun b e => Nat.lt_of_lt_of_le (HW4.out.lt b e) ha5.size)
        exact ⟨rfl, rfl, _, m4, tg4, A4, cap4, rfl, Lib.hid hW5, Lib.hid ⟨⟨ha5.os.trans HG4.out.ag.os, ha5.tape.trans HG4.out.ag.tape, ha5.output.trans HG4.out.ag.output, Nat.le_trans HG4.out.ag.size ha5.size, fun b q1 q2 => (ha5.block b (Nat.lt_of_lt_of_le q1 HG4.out.ag.size) (by omega)).trans (HG4.out.ag.block b q1 q2)⟩, HG4.out.new⟩, Lib.hid hb5, Lib.hid (HE4.out.ag ha5 (fun e => HNE.out.2.2 e.symm)), HT4E, Lib.hid (HLS4.out.keep (fun b hb => ha5.block b (HW4.out.lt b (by have hb : tg4 b = 100 := hb; omega)) (hnz b (by have hb : tg4 b = 100 := hb; omega))) (fun _ h => h))⟩
    case rest =>
    obtain ⟨rfl, rfl, OB, m4, tg4, A4, cap4, rfl, HW5, HG5, HO5, HE5, HTE5, HLS5⟩ := hcut
    as_aux_lemma =>
    have hr3 : (prs s).role = 3 := by
      have := HER.out
      unfold propErr at this
      by_cases q : (prs s).role = 3
      · exact q
      · rw [if_pos q] at this
        exact absurd this (by decide)
    have hstep := HR.out.propose HIn.out (by omega) hj (by omega) (e := propE (1 + p9)) rfl hr3
    rw [HCT.out] at hstep
    have HOK := Lib.hid hstep.1
    have HST := Lib.hid hstep.2.1
    have HLE := Lib.hid hstep.2.2
    have hlog : cT.p.log = (prs s).log ++ [{ propE (1 + p9) with term := (prs s).T }] := by
      rw [← HCT.out]
      show (settleP En.term n s (putP ⟨prs s, 0, []⟩ { propE (1 + p9) with term := (prs s).T })).p.log = _
      rw [(qt_settle (tm := En.term) (n := n) (q := s) _).log]
      unfold putP
      rw [(changed_p _ _).1]
    have HLG := Lib.hid hlog
    have hlen : cT.p.log.length = L0 + 1 := by rw [hlog, List.length_append, HL0.out]; rfl
    have HLN := Lib.hid hlen
    have hL0k : L0 ≤ 1000 := by have := (HR.out.pb s HIn.out).len; have h2 : (prs s).log.length ≤ j := this; rw [HL0.out] at h2; omega
    clear hr3 hstep hlog hlen
    obtain ⟨w5, e5⟩ : ∃ w5, w5 = wc := ⟨_, rfl⟩
    subst e5
    have hTk := took_any (w := w5.drew) (HW5.out.below (fun h => h) (below_drew _)) h1 h2 (setAt_same _ _ _) (HLS5.out.keep (w' := w5.drew) (K' := fun b => tg4 b = 100) (fun _ _ => rfl) (fun _ h => h)) HOK.out
    unfold outV at hTk
    obtain ⟨o0, o1, o2, o3, o4⟩ := cells5 HO5.out
    go_upto_region 22 with (fail)
    have hwr : IntKind.i64.wrap (L0 : Int) = (L0 : Int) := by rw [IntKind.wrap_i64]; omega
    have hS5 : w5.drew.cell? ⟨EB, 2, none⟩ = some (.int .i64 (1 + p9)) := HE5.out.cell 2
    refine wp_region_held_drew (S := fun w' => w'.cell? ⟨EB, 2, none⟩ = some (.int .i64 (1 + p9))) (by kernel_rfl) hS5 (fun hS => ?_)
    clear hS5
    refine wpAnyH_take (i := 0) (v := ?_) rfl (by kernel_rfl) (by kernel_rfl) (by kernel_rfl) (fun _ _ _ h => h) (Or.inl ⟨by rfl, ?_⟩) hS ?_
    rotate_left 1
    · intro w' hSw
      go_simp <;> with_reducible rfl
    try simp only [List.getElem_toArray, List.getElem_cons_zero, List.getElem_cons_succ, Act.put, List.setIfInBounds_toArray, List.set_cons_zero, List.set_cons_succ]
    refine wpAnyH_take (i := 1) (v := ?_) rfl (by kernel_rfl) (by kernel_rfl) (by kernel_rfl) (fun _ _ _ h => h) (Or.inl ⟨by rfl, ?_⟩) hS ?_
    rotate_left 1
    · intro w' hSw
      go_simp <;> with_reducible rfl
    try simp only [List.getElem_toArray, List.getElem_cons_zero, List.getElem_cons_succ, Act.put, List.setIfInBounds_toArray, List.set_cons_zero, List.set_cons_succ]
    refine wpAnyH_ready (rs := [2]) (by kernel_rfl) (by simp) (AllReadyH.cons rfl (fun K hK => ?_) AllReadyH.nil)
    go_simp
    refine hK _ _ hS (fun hS => ?_)
    clear hK K
    try simp only [List.getElem_toArray, List.getElem_cons_zero, List.getElem_cons_succ, Act.put, List.setIfInBounds_toArray, List.set_cons_zero, List.set_cons_succ]
    refine wpAnyH_ready (rs := [3]) (by kernel_rfl) (by simp) (AllReadyH.cons rfl (fun K hK => ?_) AllReadyH.nil)
    go_simp
    (with_reducible refine hTk.mono ?_)
    rintro _ w6 ⟨rfl, tg6, la6, lv6, dv6, sv6, hW6, hG6⟩
    obtain ⟨a6, c6, q4, ql, qv⟩ := prop_after hW6 h1 h2 HLG.out HL0.out
    have qe : w6.cell? ⟨EB, 2, none⟩ = some (.int .i64 (1 + p9)) := (hG6.bk HTE5.out HE5.out.drew).cell 2
    have HW6 := Lib.hid hW6
    have HG6 := Lib.hid hG6
    dsimp only at q4 ql qv
    simp only [propE] at qv
    clear hW6 hG6 hTk
    go_simp
    refine hK _ _ qe (fun hS => ?_)
    clear hK K
    try simp only [List.getElem_toArray, List.getElem_cons_zero, List.getElem_cons_succ, Act.put, List.setIfInBounds_toArray, List.set_cons_zero, List.set_cons_succ]
    refine wpAnyH_take (i := 4) (v := ?_) rfl (by kernel_rfl) (by kernel_rfl) (by kernel_rfl) (fun _ _ _ h => h) (Or.inl ⟨by rfl, ?_⟩) hS ?_
    rotate_left 1
    · intro w' hSw
      go_simp <;> with_reducible rfl
    try simp only [List.getElem_toArray, List.getElem_cons_zero, List.getElem_cons_succ, Act.put, List.setIfInBounds_toArray, List.set_cons_zero, List.set_cons_succ]
    refine wpAnyH_take (i := 5) (v := ?_) rfl (by kernel_rfl) (by kernel_rfl) (by kernel_rfl) (fun _ _ _ h => h) (Or.inl ⟨by go_simp, ?_⟩) hS ?_
    rotate_left 1
    · intro w' hSw
      go_simp <;> with_reducible rfl
    try simp only [List.getElem_toArray, List.getElem_cons_zero, List.getElem_cons_succ, Act.put, List.setIfInBounds_toArray, List.set_cons_zero, List.set_cons_succ]
    refine wpAnyH_take (i := 6) (v := ?_) rfl (by kernel_rfl) (by kernel_rfl) (by kernel_rfl) (fun _ _ _ h => h) (Or.inl ⟨by go_simp, ?_⟩) hS ?_
    rotate_left 1
    · intro w' hSw
      go_simp <;> with_reducible rfl
    try simp only [List.getElem_toArray, List.getElem_cons_zero, List.getElem_cons_succ, Act.put, List.setIfInBounds_toArray, List.set_cons_zero, List.set_cons_succ]
    refine wpAnyH_take (i := 7) (v := ?_) rfl (by kernel_rfl) (by kernel_rfl) (by kernel_rfl) (fun _ _ _ h => h) (Or.inl ⟨by go_simp, ?_⟩) hS ?_
    rotate_left 1
    · intro w' hSw
      go_simp <;> with_reducible rfl
    try simp only [List.getElem_toArray, List.getElem_cons_zero, List.getElem_cons_succ, Act.put, List.setIfInBounds_toArray, List.set_cons_zero, List.set_cons_succ]
    refine wpAnyH_take (i := 8) (v := ?_) rfl (by kernel_rfl) (by kernel_rfl) (by kernel_rfl) (fun _ _ _ h => h) (Or.inl ⟨by go_simp, ?_⟩) hS ?_
    rotate_left 1
    · intro w' hSw
      go_simp <;> with_reducible rfl
    try simp only [List.getElem_toArray, List.getElem_cons_zero, List.getElem_cons_succ, Act.put, List.setIfInBounds_toArray, List.set_cons_zero, List.set_cons_succ]
    refine wpAnyH_take (i := 10) (v := ?_) rfl (by kernel_rfl) (by kernel_rfl) (by kernel_rfl) (fun _ _ _ h => h) (Or.inl ⟨by go_simp, ?_⟩) hS ?_
    rotate_left 1
    · intro w' hSw
      go_simp <;> with_reducible rfl
    try simp only [List.getElem_toArray, List.getElem_cons_zero, List.getElem_cons_succ, Act.put, List.setIfInBounds_toArray, List.set_cons_zero, List.set_cons_succ]
    refine wpAnyH_ready (rs := [9]) (by kernel_rfl) (by simp) (AllReadyH.cons rfl (fun K hK => ?_) AllReadyH.nil)
    go_simp
    refine hK _ _ hS (fun hS => ?_)
    clear hK K
    try simp only [List.getElem_toArray, List.getElem_cons_zero, List.getElem_cons_succ, Act.put, List.setIfInBounds_toArray, List.set_cons_zero, List.set_cons_succ]
    refine wpAnyH_take (i := 11) (v := ?_) rfl (by kernel_rfl) (by kernel_rfl) (by kernel_rfl) (fun _ _ _ h => h) (Or.inl ⟨by go_simp, ?_⟩) hS ?_
    rotate_left 1
    · intro w' hSw
      go_simp
      exact if_pos (show (s : Int) < (n : Int) + 1 by omega)
    try simp only [List.getElem_toArray, List.getElem_cons_zero, List.getElem_cons_succ, Act.put, List.setIfInBounds_toArray, List.set_cons_zero, List.set_cons_succ]
    refine wpAnyH_ready (rs := [12]) (by kernel_rfl) (by simp) (AllReadyH.cons rfl (fun K hK => ?_) AllReadyH.nil)
    go_simp
    refine hK _ _ hS (fun hS => ?_)
    clear hK K
    try simp only [List.getElem_toArray, List.getElem_cons_zero, List.getElem_cons_succ, Act.put, List.setIfInBounds_toArray, List.set_cons_zero, List.set_cons_succ]
    refine wpAnyH_take (i := 13) (v := ?_) rfl (by kernel_rfl) (by kernel_rfl) (by kernel_rfl) (fun _ _ _ h => h) (Or.inl ⟨by go_simp, ?_⟩) hS ?_
    rotate_left 1
    · intro w' hSw
      go_simp <;> with_reducible rfl
    try simp only [List.getElem_toArray, List.getElem_cons_zero, List.getElem_cons_succ, Act.put, List.setIfInBounds_toArray, List.set_cons_zero, List.set_cons_succ]
    refine wpAnyH_take (i := 14) (v := ?_) rfl (by kernel_rfl) (by kernel_rfl) (by kernel_rfl) (fun _ _ _ h => h) (Or.inl ⟨by go_simp, ?_⟩) hS ?_
    rotate_left 1
    · intro w' hSw
      go_simp <;> with_reducible rfl
    try simp only [List.getElem_toArray, List.getElem_cons_zero, List.getElem_cons_succ, Act.put, List.setIfInBounds_toArray, List.set_cons_zero, List.set_cons_succ]
    refine wpAnyH_take (i := 15) (v := ?_) rfl (by kernel_rfl) (by kernel_rfl) (by kernel_rfl) (fun _ _ _ h => h) (Or.inl ⟨by rfl, ?_⟩) hS ?_
    rotate_left 1
    · intro w' hSw
      go_simp <;> with_reducible rfl
    try simp only [List.getElem_toArray, List.getElem_cons_zero, List.getElem_cons_succ, Act.put, List.setIfInBounds_toArray, List.set_cons_zero, List.set_cons_succ]
    refine wpAnyH_take (i := 16) (v := ?_) rfl (by kernel_rfl) (by kernel_rfl) (by kernel_rfl) (fun _ _ _ h => h) (Or.inl ⟨by rfl, ?_⟩) hS ?_
    rotate_left 1
    · intro w' hSw
      go_simp <;> with_reducible rfl
    try simp only [List.getElem_toArray, List.getElem_cons_zero, List.getElem_cons_succ, Act.put, List.setIfInBounds_toArray, List.set_cons_zero, List.set_cons_succ]
    refine wpAnyH_take (i := 17) (v := ?_) rfl (by kernel_rfl) (by kernel_rfl) (by kernel_rfl) (fun _ _ _ h => h) (Or.inl ⟨by go_simp, ?_⟩) hS ?_
    rotate_left 1
    · intro w' hSw
      go_simp <;> with_reducible rfl
    try simp only [List.getElem_toArray, List.getElem_cons_zero, List.getElem_cons_succ, Act.put, List.setIfInBounds_toArray, List.set_cons_zero, List.set_cons_succ]
    refine wpAnyH_take (i := 18) (v := ?_) rfl (by kernel_rfl) (by kernel_rfl) (by kernel_rfl) (fun _ _ _ h => h) (Or.inl ⟨by go_simp, ?_⟩) hS ?_
    rotate_left 1
    · intro w' hSw
      go_simp <;> with_reducible rfl
    try simp only [List.getElem_toArray, List.getElem_cons_zero, List.getElem_cons_succ, Act.put, List.setIfInBounds_toArray, List.set_cons_zero, List.set_cons_succ]
    refine wpAnyH_take (i := 19) (v := ?_) rfl (by kernel_rfl) (by kernel_rfl) (by kernel_rfl) (fun _ _ _ h => h) (Or.inl ⟨by go_simp, ?_⟩) hS ?_
    rotate_left 1
    · intro w' hSw
      go_simp <;> with_reducible rfl
    try simp only [List.getElem_toArray, List.getElem_cons_zero, List.getElem_cons_succ, Act.put, List.setIfInBounds_toArray, List.set_cons_zero, List.set_cons_succ]
    refine wpAnyH_take (i := 21) (v := ?_) rfl (by kernel_rfl) (by kernel_rfl) (by kernel_rfl) (fun _ _ _ h => h) (Or.inl ⟨by go_simp, ?_⟩) hS ?_
    rotate_left 1
    · intro w' hSw
      go_simp <;> with_reducible rfl
    try simp only [List.getElem_toArray, List.getElem_cons_zero, List.getElem_cons_succ, Act.put, List.setIfInBounds_toArray, List.set_cons_zero, List.set_cons_succ]
    refine wpAnyH_take (i := 24) (v := ?_) rfl (by kernel_rfl) (by kernel_rfl) (by kernel_rfl) (fun _ _ _ h => h) (Or.inl ⟨by go_simp, ?_⟩) hS ?_
    rotate_left 1
    · intro w' hSw
      go_simp <;> with_reducible rfl
    try simp only [List.getElem_toArray, List.getElem_cons_zero, List.getElem_cons_succ, Act.put, List.setIfInBounds_toArray, List.set_cons_zero, List.set_cons_succ]
    refine wpAnyH_take (i := 25) (v := ?_) rfl (by kernel_rfl) (by kernel_rfl) (by kernel_rfl) (fun _ _ _ h => h) (Or.inl ⟨by go_simp, ?_⟩) hS ?_
    rotate_left 1
    · intro w' hSw
      go_simp <;> with_reducible rfl
    try simp only [List.getElem_toArray, List.getElem_cons_zero, List.getElem_cons_succ, Act.put, List.setIfInBounds_toArray, List.set_cons_zero, List.set_cons_succ]
    refine wpAnyH_take (i := 29) (v := ?_) rfl (by kernel_rfl) (by kernel_rfl) (by kernel_rfl) (fun _ _ _ h => h) (Or.inl ⟨by go_simp, ?_⟩) hS ?_
    rotate_left 1
    · intro w' hSw
      go_simp <;> with_reducible rfl
    try simp only [List.getElem_toArray, List.getElem_cons_zero, List.getElem_cons_succ, Act.put, List.setIfInBounds_toArray, List.set_cons_zero, List.set_cons_succ]
    refine wpAnyH_take (i := 30) (v := ?_) rfl (by kernel_rfl) (by kernel_rfl) (by kernel_rfl) (fun _ _ _ h => h) (Or.inl ⟨by go_simp, ?_⟩) hS ?_
    rotate_left 1
    · intro w' hSw
      go_simp <;> with_reducible rfl
    try simp only [List.getElem_toArray, List.getElem_cons_zero, List.getElem_cons_succ, Act.put, List.setIfInBounds_toArray, List.set_cons_zero, List.set_cons_succ]
    refine wpAnyH_ready (rs := [20]) (by kernel_rfl) (by simp) (AllReadyH.cons rfl (fun K hK => ?_) AllReadyH.nil)
    go_simp
    refine hK _ _ hS (fun hS => ?_)
    clear hK K
    try simp only [List.getElem_toArray, List.getElem_cons_zero, List.getElem_cons_succ, Act.put, List.setIfInBounds_toArray, List.set_cons_zero, List.set_cons_succ]
    refine wpAnyH_take (i := 22) (v := ?_) rfl (by kernel_rfl) (by kernel_rfl) (by kernel_rfl) (fun _ _ _ h => h) (Or.inl ⟨by go_simp, ?_⟩) hS ?_
    rotate_left 1
    · intro w' hSw
      go_simp
      exact if_pos (show (s : Int) < (n : Int) + 1 by omega)
    try simp only [List.getElem_toArray, List.getElem_cons_zero, List.getElem_cons_succ, Act.put, List.setIfInBounds_toArray, List.set_cons_zero, List.set_cons_succ]
    refine wpAnyH_ready (rs := [23]) (by kernel_rfl) (by simp) (AllReadyH.cons rfl (fun K hK => ?_) AllReadyH.nil)
    go_simp
    refine hK _ _ hS (fun hS => ?_)
    clear hK K
    try simp only [List.getElem_toArray, List.getElem_cons_zero, List.getElem_cons_succ, Act.put, List.setIfInBounds_toArray, List.set_cons_zero, List.set_cons_succ]
    refine wpAnyH_take (i := 26) (v := ?_) rfl (by kernel_rfl) (by kernel_rfl) (by kernel_rfl) (fun _ _ _ h => h) (Or.inl ⟨by go_simp, ?_⟩) hS ?_
    rotate_left 1
    · intro w' hSw
      go_simp
      first
        | exact if_pos (show (L0 : Int) < (L0 : Int) + 1 by omega)
        | with_reducible rfl
    try simp only [List.getElem_toArray, List.getElem_cons_zero, List.getElem_cons_succ, Act.put, List.setIfInBounds_toArray, List.set_cons_zero, List.set_cons_succ]
    refine wpAnyH_take (i := 27) (v := ?_) rfl (by kernel_rfl) (by kernel_rfl) (by kernel_rfl) (fun _ _ _ h => h) (Or.inl ⟨by go_simp, ?_⟩) hS ?_
    rotate_left 1
    · intro w' hSw
      go_simp <;> with_reducible rfl
    try simp only [List.getElem_toArray, List.getElem_cons_zero, List.getElem_cons_succ, Act.put, List.setIfInBounds_toArray, List.set_cons_zero, List.set_cons_succ]
    refine wpAnyH_ready (rs := [28]) (by kernel_rfl) (by simp) (AllReadyH.cons rfl (fun K hK => ?_) AllReadyH.nil)
    go_simp
    refine hK _ _ hS (fun hS => ?_)
    clear hK K
    try simp only [List.getElem_toArray, List.getElem_cons_zero, List.getElem_cons_succ, Act.put, List.setIfInBounds_toArray, List.set_cons_zero, List.set_cons_succ]
    refine wpAnyH_take (i := 31) (v := ?_) rfl (by kernel_rfl) (by kernel_rfl) (by kernel_rfl) (fun _ _ _ h => h) (Or.inl ⟨by go_simp, ?_⟩) hS ?_
    rotate_left 1
    · intro w' hSw
      go_simp <;> with_reducible rfl
    try simp only [List.getElem_toArray, List.getElem_cons_zero, List.getElem_cons_succ, Act.put, List.setIfInBounds_toArray, List.set_cons_zero, List.set_cons_succ]
    refine wpAnyH_take (i := 32) (v := ?_) rfl (by kernel_rfl) (by kernel_rfl) (by kernel_rfl) (fun _ _ _ h => h) (Or.inl ⟨by rfl, ?_⟩) hS ?_
    rotate_left 1
    · intro w' hSw
      go_simp <;> with_reducible rfl
    try simp only [List.getElem_toArray, List.getElem_cons_zero, List.getElem_cons_succ, Act.put, List.setIfInBounds_toArray, List.set_cons_zero, List.set_cons_succ]
    refine wpAnyH_take (i := 33) (v := ?_) rfl (by kernel_rfl) (by kernel_rfl) (by kernel_rfl) (fun _ _ _ h => h) (Or.inl ⟨by rfl, ?_⟩) hS ?_
    rotate_left 1
    · intro w' hSw
      go_simp <;> with_reducible rfl
    try simp only [List.getElem_toArray, List.getElem_cons_zero, List.getElem_cons_succ, Act.put, List.setIfInBounds_toArray, List.set_cons_zero, List.set_cons_succ]
    refine wpAnyH_done (by kernel_rfl) ?_ _
    go_wp2_with fail
    go_ret
    exact ⟨rfl, tg6, _, _, _, HW6.out, HST.out, HG3.out.trans (HG5.out.trans ((Goes.of_below (below_drew _)).trans HG6.out)), rfl, by have := HLE.out; show (k.net ++ cT.out).length ≤ _; rw [List.length_append]; omega⟩
  · skip
    as_aux_lemma =>
    have hpe2 : propErr ⟨prs s, y.frm s, []⟩ (propE (1 + p9)) = 12 ∨ propErr ⟨prs s, y.frm s, []⟩ (propE (1 + p9)) = 5 := by
      unfold propErr at hpe0 ⊢
      split
      · exact .inl rfl
      · rename_i q1
        rw [if_neg q1] at hpe0
        split
        · rename_i q2
          exfalso
          have q2 : (3 : Int) < 2 ∨ 6 < (3 : Int) := q2
          omega
        · rename_i q2
          rw [if_neg q2] at hpe0
          split
          · exact .inr rfl
          · rename_i q3
            rw [if_neg q3] at hpe0
            exact absurd rfl hpe0
    have HER := Lib.hid hpe0
    obtain ⟨er, her⟩ : ∃ er, propErr ⟨prs s, y.frm s, []⟩ (propE (1 + p9)) = er := ⟨_, rfl⟩
    simp only [propE] at her hpe2 HER
    have hPr := HPR.out
    simp only [her] at hPr
    clear HPR
    have HPR := Lib.hid hPr
    clear hPr
    rw [her] at hpe2 HER
    have e0 : (er == 0) = false := by rcases hpe2 with e | e <;> simp [e]
    have e1 : (er != 0) = true := by rcases hpe2 with e | e <;> simp [e]
    have e5 : ((er == 12) = true) ∨ ((er == 12) = false ∧ (er == 5) = true) := by rcases hpe2 with e | e <;> simp [e]
    clear hpe0 her hpe2
    go_cut [10, 11, 12] (fun a b c wx => c = .int .i64 er ∧ ∃ OB : Nat, b = .pointer (some ⟨OB, 0, none⟩) ∧ Hid (WmAt wx n tg y prs k) ∧ Hid (Goes tg tg w3 wx))
    case first =>
      refine wp_region_held_drew (S := fun w' => SPr w' y n s EB (1 + p9)) (by kernel_rfl) hS0 (fun hS => ?_)
      clear hS0
      refine wpAnyH_take (i := 0) (v := ?_) rfl (by kernel_rfl) (by kernel_rfl) (by kernel_rfl) (fun _ _ _ h => h) (Or.inl ⟨by rfl, ?_⟩) hS ?_
      rotate_left 1
      · intro w' hSw
        go_simp <;> with_reducible rfl
      try simp only [List.getElem_toArray, List.getElem_cons_zero, List.getElem_cons_succ, Act.put, List.setIfInBounds_toArray, List.set_cons_zero, List.set_cons_succ]
      refine wpAnyH_take (i := 1) (v := ?_) rfl (by kernel_rfl) (by kernel_rfl) (by kernel_rfl) (fun _ _ _ h => h) (Or.inl ⟨by rfl, ?_⟩) hS ?_
      rotate_left 1
      · intro w' hSw
        go_simp <;> with_reducible rfl
      try simp only [List.getElem_toArray, List.getElem_cons_zero, List.getElem_cons_succ, Act.put, List.setIfInBounds_toArray, List.set_cons_zero, List.set_cons_succ]
      refine wpAnyH_take (i := 2) (v := ?_) rfl (by kernel_rfl) (by kernel_rfl) (by kernel_rfl) (fun _ _ _ h => h) (Or.inl ⟨by rfl, ?_⟩) hS ?_
      rotate_left 1
      · intro w' hSw
        go_simp <;> with_reducible rfl
      try simp only [List.getElem_toArray, List.getElem_cons_zero, List.getElem_cons_succ, Act.put, List.setIfInBounds_toArray, List.set_cons_zero, List.set_cons_succ]
      refine wpAnyH_take (i := 3) (v := ?_) rfl (by kernel_rfl) (by kernel_rfl) (by kernel_rfl) (fun _ _ _ h => h) (Or.inl ⟨by rfl, ?_⟩) hS ?_
      rotate_left 1
      · intro w' hSw
        go_simp <;> with_reducible rfl
      try simp only [List.getElem_toArray, List.getElem_cons_zero, List.getElem_cons_succ, Act.put, List.setIfInBounds_toArray, List.set_cons_zero, List.set_cons_succ]
      refine wpAnyH_take (i := 4) (v := ?_) rfl (by kernel_rfl) (by kernel_rfl) (by kernel_rfl) (fun _ _ _ h => h) (Or.inl ⟨by rfl, ?_⟩) hS ?_
      rotate_left 1
      · intro w' hSw
        go_simp <;> with_reducible rfl
      try simp only [List.getElem_toArray, List.getElem_cons_zero, List.getElem_cons_succ, Act.put, List.setIfInBounds_toArray, List.set_cons_zero, List.set_cons_succ]
      refine wpAnyH_take (i := 5) (v := ?_) rfl (by kernel_rfl) (by kernel_rfl) (by kernel_rfl) (fun _ _ _ h => h) (Or.inl ⟨by rfl, ?_⟩) hS ?_
      rotate_left 1
      · intro w' hSw
        go_simp
        exact if_pos (show (s : Int) < (n : Int) + 1 by omega)
      try simp only [List.getElem_toArray, List.getElem_cons_zero, List.getElem_cons_succ, Act.put, List.setIfInBounds_toArray, List.set_cons_zero, List.set_cons_succ]
      refine wpAnyH_take (i := 6) (v := ?_) rfl (by kernel_rfl) (by kernel_rfl) (by kernel_rfl) (fun _ _ _ h => h) (Or.inl ⟨by rfl, ?_⟩) hS ?_
      rotate_left 1
      · intro w' hSw
        go_simp <;> with_reducible rfl
      try simp only [List.getElem_toArray, List.getElem_cons_zero, List.getElem_cons_succ, Act.put, List.setIfInBounds_toArray, List.set_cons_zero, List.set_cons_succ]
      refine wpAnyH_take (i := 7) (v := ?_) rfl (by kernel_rfl) (by kernel_rfl) (by kernel_rfl) (fun _ _ _ h => h) (Or.inl ⟨by rfl, ?_⟩) hS ?_
      rotate_left 1
      · intro w' hSw
        go_simp <;> with_reducible rfl
      try simp only [List.getElem_toArray, List.getElem_cons_zero, List.getElem_cons_succ, Act.put, List.setIfInBounds_toArray, List.set_cons_zero, List.set_cons_succ]
      refine wpAnyH_ready (rs := [8, 13]) (by kernel_rfl) (by simp) (AllReadyH.cons rfl (fun K hK => ?_) (AllReadyH.cons rfl (fun K hK => ?_) AllReadyH.nil))
      · skip
        go_simp
        (with_reducible refine (HPR.out _ (below_drew w3)).mono ?_)
        rintro x4 w4 hx4
        obtain ⟨-, rfl, hb4⟩ := hx4.resolve_right (fun q => HER.out q.1)
        have hB4 : Below w3.heap.size w3 w4 := Below.trans (below_drew w3) (hb4.mono (Nat.le_refl _))
        have hS4 := hS.below hb4 rfl
        have HB4 := Lib.hid hB4
        have HS4 := Lib.hid hS4
        clear hx4 hb4 hB4
        unfold out0
        go_simp
        refine hK _ _ hS4 (fun hS => ?_)
        clear hK K hS4
        try simp only [List.getElem_toArray, List.getElem_cons_zero, List.getElem_cons_succ, Act.put, List.setIfInBounds_toArray, List.set_cons_zero, List.set_cons_succ]
        refine wpAnyH_take (i := 9) (v := ?_) rfl (by kernel_rfl) (by kernel_rfl) (by kernel_rfl) (fun _ _ _ h => h) (Or.inl ⟨by rfl, ?_⟩) hS ?_
        rotate_left 1
        · intro w' hSw
          go_simp <;> with_reducible rfl
        try simp only [List.getElem_toArray, List.getElem_cons_zero, List.getElem_cons_succ, Act.put, List.setIfInBounds_toArray, List.set_cons_zero, List.set_cons_succ]
        refine wpAnyH_take (i := 10) (v := ?_) rfl (by kernel_rfl) (by kernel_rfl) (by kernel_rfl) (fun _ _ _ h => h) (Or.inl ⟨by rfl, ?_⟩) hS ?_
        rotate_left 1
        · intro w' hSw
          go_simp <;> with_reducible rfl
        try simp only [List.getElem_toArray, List.getElem_cons_zero, List.getElem_cons_succ, Act.put, List.setIfInBounds_toArray, List.set_cons_zero, List.set_cons_succ]
        refine wpAnyH_take (i := 11) (v := ?_) rfl (by kernel_rfl) (by kernel_rfl) (by kernel_rfl) (fun _ _ _ h => h) (Or.inl ⟨by rfl, ?_⟩) hS ?_
        rotate_left 1
        · intro w' hSw
          go_simp <;> with_reducible rfl
        try simp only [List.getElem_toArray, List.getElem_cons_zero, List.getElem_cons_succ, Act.put, List.setIfInBounds_toArray, List.set_cons_zero, List.set_cons_succ]
        refine wpAnyH_take (i := 12) (v := ?_) rfl (by kernel_rfl) (by kernel_rfl) (by kernel_rfl) (fun _ _ _ h => h) (Or.inl ⟨by rfl, ?_⟩) hS ?_
        rotate_left 1
        · intro w' hSw
          go_simp <;> with_reducible rfl
        try simp only [List.getElem_toArray, List.getElem_cons_zero, List.getElem_cons_succ, Act.put, List.setIfInBounds_toArray, List.set_cons_zero, List.set_cons_succ]
        refine wpAnyH_ready (rs := [13]) (by kernel_rfl) (by simp) (AllReadyH.cons rfl (fun K hK => ?_) AllReadyH.nil)
        go_simp
        refine hK _ _ (hS.below ((Below.refl _ _).alloc (Nat.le_refl _) _) rfl) (fun hS => ?_)
        clear hK K
        try simp only [List.getElem_toArray, List.getElem_cons_zero, List.getElem_cons_succ, Act.put, List.setIfInBounds_toArray, List.set_cons_zero, List.set_cons_succ]
        refine wpAnyH_take (i := 14) (v := ?_) rfl (by kernel_rfl) (by kernel_rfl) (by kernel_rfl) (fun _ _ _ h => h) (Or.inl ⟨by rfl, ?_⟩) hS ?_
        rotate_left 1
        · intro w' hSw
          go_simp <;> with_reducible rfl
        try simp only [List.getElem_toArray, List.getElem_cons_zero, List.getElem_cons_succ, Act.put, List.setIfInBounds_toArray, List.set_cons_zero, List.set_cons_succ]
        refine wpAnyH_ready (rs := [15]) (by kernel_rfl) (by simp) (AllReadyH.cons rfl (fun K hK => ?_) AllReadyH.nil)
        go_simp
        refine hK _ _ (HS4.out.below ((Below.refl _ _).alloc (Nat.le_refl _) _) rfl) (fun hS => ?_)
        clear hK K
        try simp only [List.getElem_toArray, List.getElem_cons_zero, List.getElem_cons_succ, Act.put, List.setIfInBounds_toArray, List.set_cons_zero, List.set_cons_succ]
        refine wpAnyH_take (i := 16) (v := ?_) rfl (by kernel_rfl) (by kernel_rfl) (by kernel_rfl) (fun _ _ _ h => h) (Or.inl ⟨by rfl, ?_⟩) hS ?_
        rotate_left 1
        · intro w' hSw
          go_simp <;> with_reducible rfl
        try simp only [List.getElem_toArray, List.getElem_cons_zero, List.getElem_cons_succ, Act.put, List.setIfInBounds_toArray, List.set_cons_zero, List.set_cons_succ]
        refine wpAnyH_done (by kernel_rfl) ?_ _
        go_wp2_with fail
        go_meet
        exact ⟨rfl, _, rfl, Lib.hid (HW3.out.below (fun h => h) (HB4.out.alloc HB4.out.size _)), Lib.hid (Goes.of_below (HB4.out.alloc HB4.out.size _))⟩
      · skip
        go_simp
        have HOB : Hid (Bk (w3.alloc (.cells #[.int .i64 0, .int .i64 0, .int .i64 0, .int .i64 0, .slice none 0 0] 48)).drew w3.heap.size 48 [.int .i64 0, .int .i64 0, .int .i64 0, .int .i64 0, .slice none 0 0]) := Lib.hid (Bk.new w3 _ _)
        refine hK _ _ (hS.below ((Below.refl _ _).alloc (Nat.le_refl _) _) rfl) (fun hS => ?_)
        clear hK K
        try simp only [List.getElem_toArray, List.getElem_cons_zero, List.getElem_cons_succ, Act.put, List.setIfInBounds_toArray, List.set_cons_zero, List.set_cons_succ]
        refine wpAnyH_ready (rs := [8]) (by kernel_rfl) (by simp) (AllReadyH.cons rfl (fun K hK => ?_) AllReadyH.nil)
        go_simp
        (with_reducible refine (HPR.out _ ((Below.refl w3.heap.size w3).alloc (Nat.le_refl _) _).drew).mono ?_)
        rintro x4 w4 hx4
        obtain ⟨-, rfl, hb4⟩ := hx4.resolve_right (fun q => HER.out q.1)
        have hB4 : Below w3.heap.size w3 w4 := Below.trans ((Below.refl w3.heap.size w3).alloc (Nat.le_refl _) _).drew (hb4.mono (by simp))
        have hS4 := hS.below hb4 rfl
        have HB4 := Lib.hid hB4
        have HS4 := Lib.hid hS4
        have hOB := HOB.out.below hb4 HOB.out.lt
        obtain ⟨z0, z1, z2, z3, z4⟩ := cells5 hOB
        have zf := hOB.frozen
        have HOB4 := Lib.hid hOB
        clear hOB
        clear hx4 hb4 hB4
        unfold out0
        go_simp
        refine hK _ _ hS4 (fun hS => ?_)
        clear hK K hS4
        try simp only [List.getElem_toArray, List.getElem_cons_zero, List.getElem_cons_succ, Act.put, List.setIfInBounds_toArray, List.set_cons_zero, List.set_cons_succ]
        refine wpAnyH_take (i := 9) (v := ?_) rfl (by kernel_rfl) (by kernel_rfl) (by kernel_rfl) (fun _ _ _ h => h) (Or.inl ⟨by rfl, ?_⟩) hS ?_
        rotate_left 1
        · intro w' hSw
          go_simp <;> with_reducible rfl
        try simp only [List.getElem_toArray, List.getElem_cons_zero, List.getElem_cons_succ, Act.put, List.setIfInBounds_toArray, List.set_cons_zero, List.set_cons_succ]
        refine wpAnyH_take (i := 10) (v := ?_) rfl (by kernel_rfl) (by kernel_rfl) (by kernel_rfl) (fun _ _ _ h => h) (Or.inl ⟨by rfl, ?_⟩) hS ?_
        rotate_left 1
        · intro w' hSw
          go_simp <;> with_reducible rfl
        try simp only [List.getElem_toArray, List.getElem_cons_zero, List.getElem_cons_succ, Act.put, List.setIfInBounds_toArray, List.set_cons_zero, List.set_cons_succ]
        refine wpAnyH_take (i := 11) (v := ?_) rfl (by kernel_rfl) (by kernel_rfl) (by kernel_rfl) (fun _ _ _ h => h) (Or.inl ⟨by rfl, ?_⟩) hS ?_
        rotate_left 1
        · intro w' hSw
          go_simp <;> with_reducible rfl
        try simp only [List.getElem_toArray, List.getElem_cons_zero, List.getElem_cons_succ, Act.put, List.setIfInBounds_toArray, List.set_cons_zero, List.set_cons_succ]
        refine wpAnyH_take (i := 12) (v := ?_) rfl (by kernel_rfl) (by kernel_rfl) (by kernel_rfl) (fun _ _ _ h => h) (Or.inl ⟨by rfl, ?_⟩) hS ?_
        rotate_left 1
        · intro w' hSw
          go_simp <;> with_reducible rfl
        try simp only [List.getElem_toArray, List.getElem_cons_zero, List.getElem_cons_succ, Act.put, List.setIfInBounds_toArray, List.set_cons_zero, List.set_cons_succ]
        refine wpAnyH_take (i := 14) (v := ?_) rfl (by kernel_rfl) (by kernel_rfl) (by kernel_rfl) (fun _ _ _ h => h) (Or.inl ⟨by rfl, ?_⟩) hS ?_
        rotate_left 1
        · intro w' hSw
          go_simp <;> with_reducible rfl
        try simp only [List.getElem_toArray, List.getElem_cons_zero, List.getElem_cons_succ, Act.put, List.setIfInBounds_toArray, List.set_cons_zero, List.set_cons_succ]
        refine wpAnyH_ready (rs := [15]) (by kernel_rfl) (by simp) (AllReadyH.cons rfl (fun K hK => ?_) AllReadyH.nil)
        go_simp
        refine hK _ _ (((((HS4.out.far HNE.out).far HNE.out).far HNE.out).far HNE.out).far HNE.out) (fun hS => ?_)
        clear hK K
        try simp only [List.getElem_toArray, List.getElem_cons_zero, List.getElem_cons_succ, Act.put, List.setIfInBounds_toArray, List.set_cons_zero, List.set_cons_succ]
        refine wpAnyH_take (i := 16) (v := ?_) rfl (by kernel_rfl) (by kernel_rfl) (by kernel_rfl) (fun _ _ _ h => h) (Or.inl ⟨by rfl, ?_⟩) hS ?_
        rotate_left 1
        · intro w' hSw
          go_simp <;> with_reducible rfl
        try simp only [List.getElem_toArray, List.getElem_cons_zero, List.getElem_cons_succ, Act.put, List.setIfInBounds_toArray, List.set_cons_zero, List.set_cons_succ]
        refine wpAnyH_done (by kernel_rfl) ?_ _
        have ha5 := ag5 w4 w3.heap.size (.int .i64 0) (.int .i64 0) (.int .i64 0) (.int .i64 0) (.slice none 0 0)
        have hb5 : Below w3.heap.size w3 (((((w4.setCell ⟨w3.heap.size, 0, none⟩ (.int .i64 0)).setCell ⟨w3.heap.size, 1, none⟩ (.int .i64 0)).setCell ⟨w3.heap.size, 2, none⟩ (.int .i64 0)).setCell ⟨w3.heap.size, 3, none⟩ (.int .i64 0)).setCell ⟨w3.heap.size, 4, none⟩ (.slice none 0 0)) := ⟨ha5.os.trans HB4.out.os, ha5.tape.trans HB4.out.tape, ha5.output.trans HB4.out.output, Nat.le_trans HB4.out.size ha5.size, fun b q => (ha5.block b (Nat.lt_of_lt_of_le q HB4.out.size) (by omega)).trans (HB4.out.block b q)⟩
        go_wp2_with fail
        go_meet
        exact ⟨rfl, _, rfl, Lib.hid (HW3.out.below (fun h => h) hb5), Lib.hid (Goes.of_below hb5)⟩
    case rest =>
    obtain ⟨rfl, OB, rfl, hW6, hG6⟩ := hcut
    rcases e5 with e5 | ⟨e5, e6⟩
    all_goals
      go_wp2_with fail
      go_ret
      exact ⟨rfl, tg, y, prs, k, hW6.out, HR.out.mono (by omega), HG3.out.trans hG6.out, rfl, by omega⟩
end
end Go.Proofs.Ythfofnfkopnbhaa


