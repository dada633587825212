/- The reference's Fit: over this seat's program. -/
import Derived.Test.YtcbomcbflmgmhaaGreatKRef3
namespace Go.Proofs.YtcbomcbflmgmhaaGreat
open Go.RowKit
set_option linter.unusedVariables false
set_option maxRecDepth 100000

theorem owns_cut {w : World} {base e size n m cap : Nat} {A : Option Addr} {xs : List Value} (h : w.ownsRow base e size (.slice A n cap) n xs) (hm : m ≤ n) : w.ownsRow base e size (.slice A m cap) m (xs.take (m * size)) := by
  have hle : m * size ≤ n * size := Nat.mul_le_mul_right _ hm
  refine ⟨by rw [List.length_take, h.1]; omega, ?_⟩
  rcases h.2 with ⟨h1, h2⟩ | ⟨g, c, cur, h1, hb, hg, h2, h3, h4, h5⟩
  · injection h1 with h1 _ h3
    subst h1 h3
    exact .inl ⟨by rw [show m = 0 by omega], by omega⟩
  · injection h1 with h1 _ h1'
    subst h1 h1'
    exact .inr ⟨g, cap, cur, rfl, hb, hg, by omega, h3, h4, by rw [← h5, List.take_take, Nat.min_eq_left hle]⟩
/-- The reference's log at q, laid open. -/
structure RefO (R : Nat → Prop) (w : World) (q : Nat) (v : Value) (K : Nat → Prop) (es : List En) (ds : List (Option Addr × Nat)) : Prop where
  r0 : R q
  r1 : w.heap[q]? = some (.cells #[v] 40 (0, 0))
  r2 : RowK w 0 v K es ds
  r3 : ∀ g, v.ownBlock = some g → R g ∧ g ≠ q
  r4 : ∀ b, K b → R b ∧ b ≠ q
theorem RefS.opn {R : Nat → Prop} {w : World} {q : Nat} {es : List En} (h : RefS R w q es) : ∃ A c K ds, RefO R w q (.slice A es.length c) K es ds := by
  obtain ⟨r0, v, K, ds, r1, r2, r3, r4⟩ := h
  obtain ⟨A, c, rfl⟩ := owns_form r2.own
  exact ⟨A, c, K, ds, r0, r1, r2, r3, r4⟩
theorem RefO.shut {R : Nat → Prop} {w : World} {q : Nat} {v : Value} {K : Nat → Prop} {es : List En} {ds : List (Option Addr × Nat)} (h : RefO R w q v K es ds) : RefS R w q es := ⟨h.r0, v, K, ds, h.r1, h.r2, h.r3, h.r4⟩
theorem RefO.cap {R : Nat → Prop} {w : World} {q c : Nat} {A : Option Addr} {K : Nat → Prop} {es : List En} {ds : List (Option Addr × Nat)} (h : RefO R w q (.slice A es.length c) K es ds) : es.length ≤ c ∧ c ≤ 9223372036854775807 := by
  rcases h.r2.own.2 with ⟨h1, h2⟩ | ⟨g, c', cur, h1, hb, hg, h2, h3, h4, h5⟩
  · injection h1 with _ _ h1; omega
  · injection h1 with _ _ h1
    subst h1
    exact ⟨h2, Nat.le_trans h3 (by decide)⟩
theorem RefO.cut {R : Nat → Prop} {w : World} {q c : Nat} {A : Option Addr} {K : Nat → Prop} {es : List En} {ds : List (Option Addr × Nat)} {m : Nat} (h : RefO R w q (.slice A es.length c) K es ds) (hm : m ≤ es.length) :
    RefO R (w.setCell ⟨q, 0, none⟩ (.slice A m c)) q (.slice A m c) K (es.take m) (ds.take m) := by
  have hsz : (w.setCell ⟨q, 0, none⟩ (.slice A m c)).heap.size = w.heap.size := by simp [World.setCell]
  have hl : (es.take m).length = m := by simp; omega
  have hk : ∀ b, b ≠ q → (w.setCell ⟨q, 0, none⟩ (.slice A m c)).heap[b]? = w.heap[b]? := fun b hb => Below.heap_setCell _ _ _ _ hb
  have hob : (Value.slice A m c).ownBlock = (Value.slice A es.length c).ownBlock := by cases A <;> rfl
  refine ⟨h.r0, by rw [heap_setCell_same _ _ _ _ _ _ h.r1]; simp, ⟨?_, by simp [h.r2.len], fun i e d hi hd => ?_, fun b hb => ?_⟩, fun g e => h.r3 g (by rw [← hob]; exact e), h.r4⟩
  · rw [hl, rowV_take _ _ _ h.r2.len hm]
    exact owns_keep (owns_cut h.r2.own hm) (fun g e => hk g (h.r3 g (by rw [← hob]; exact e)).2)
  · rw [List.getElem?_take] at hi hd
    split at hi
    · rename_i hin
      rw [if_pos hin] at hd
      exact (h.r2.data i e d hi hd).keep (fun b hb _ => hk b (h.r4 b hb).2) (by omega) (fun _ h _ => h)
    · cases hi
  · obtain ⟨k1, k2, k3⟩ := h.r2.kk b hb
    exact ⟨k1, by omega, by rw [hob]; exact k3⟩
/-- Where the reference's Fit stands behind j entries: L is what its log has. -/
def FitSt (es ns : List En) (n j : Nat) (chg : Int) (L : List En) : Prop :=
  (chg = 0 ∧ L = es ∧ ∀ q, q < j → FitJ es ns n q) ∨ ∃ k, k < j ∧ (∀ q, q < k → FitJ es ns n q) ∧ ¬ FitJ es ns n k ∧ n + k ≤ es.length ∧ chg = (n : Int) + 1 + k ∧ L = es.take (n + k) ++ (ns.drop k).take (j - k)
theorem FitSt.same {es ns L : List En} {n j : Nat} (h : FitSt es ns n j 0 L) : L = es ∧ ∀ q, q < j → FitJ es ns n q := by
  rcases h with ⟨_, h1, h2⟩ | ⟨k, _, _, _, _, h, _⟩
  · exact ⟨h1, h2⟩
  · omega
theorem FitSt.hit {es ns L : List En} {n j : Nat} (h : FitSt es ns n j 0 L) (hj : FitJ es ns n j) : FitSt es ns n (j + 1) 0 L := by
  obtain ⟨h1, h2⟩ := h.same
  exact .inl ⟨rfl, h1, fun q hq => by rcases Nat.lt_or_ge q j with h | h; (exact h2 q h); (rw [show q = j by omega]; exact hj)⟩
theorem FitSt.miss {es ns L : List En} {n j : Nat} {y : En} (h : FitSt es ns n j 0 L) (hn : n ≤ es.length) (hj : ¬ FitJ es ns n j) (hy : ns[j]? = some y) : FitSt es ns n (j + 1) ((n : Int) + 1 + j) (es.take (n + j) ++ [y]) := by
  obtain ⟨h1, h2⟩ := h.same
  refine .inr ⟨j, by omega, h2, hj, fit_le h2 hn, rfl, ?_⟩
  rw [show j + 1 - j = 0 + 1 by omega, List.take_add_one, List.getElem?_drop, Nat.add_zero, hy]
  simp
theorem FitSt.more {es ns L : List En} {n j : Nat} {chg : Int} {y : En} (h : FitSt es ns n j chg L) (h0 : chg ≠ 0) (hy : ns[j]? = some y) : FitSt es ns n (j + 1) chg (L ++ [y]) := by
  rcases h with ⟨h, _⟩ | ⟨k, h1, h2, h3, h4, h5, h6⟩
  · exact absurd h h0
  · refine .inr ⟨k, by omega, h2, h3, h4, h5, ?_⟩
    rw [h6, show j + 1 - k = (j - k) + 1 by omega, List.take_add_one, List.getElem?_drop, show k + (j - k) = j by omega, hy, List.append_assoc]
    rfl
theorem FitSt.len {es ns L : List En} {n j : Nat} {chg : Int} (h : FitSt es ns n j chg L) : L.length ≤ es.length + j := by
  rcases h with ⟨_, rfl, _⟩ | ⟨k, h1, _, _, h4, _, rfl⟩
  · omega
  · simp; omega
theorem FitSt.done {es ns L : List En} {n : Nat} {chg t : Int} (h : FitSt es ns n ns.length chg L) (h1 : hasAt es n = true) (h2 : termAt es n = t) : FitP es ns n t ((n : Int) + ns.length) chg true L := by
  refine .inr ⟨h1, h2, rfl, rfl, ?_⟩
  rcases h with ⟨rfl, rfl, h3⟩ | ⟨k, k1, k2, k3, k4, k5, k6⟩
  · exact .inl ⟨h3, rfl, rfl⟩
  · exact .inr ⟨k, k1, k2, k3, k4, k5, by rw [k6, List.take_of_length_le (l := ns.drop k) (by simp)]; rfl⟩
def RefFitEnd (R : Nat → Prop) (w : World) (q : Nat) (es ns : List En) (i t : Int) (e : Ending) (w' : World) : Prop :=
  ∃ last chg ok es', e = .returned (.tuple #[.int .i64 last, .int .i64 chg, .bool ok]) ∧ FitP es ns i t last chg ok es' ∧ RefS (fun b => R b ∨ Fresh w w' b) w' q es' ∧ Ag (fun k => ¬ R k) w w'
/-- The log, and what it leaves, as seen from the beginning. -/
structure RefAt (R : Nat → Prop) (w wr : World) (q : Nat) (L : List En) : Prop where
  ref : RefS (fun b => R b ∨ Fresh w wr b) wr q L
  ag : Ag (fun k => ¬ R k) w wr
theorem RefAt.below {R : Nat → Prop} {w wr wr' : World} {q : Nat} {L : List En} (h : RefAt R w wr q L) (hb : Below wr.heap.size wr wr') : RefAt R w wr' q L :=
  ⟨(h.ref.below hb).mono (fun b hb' => hb'.imp id (fun h => ⟨h.1, Nat.lt_of_lt_of_le h.2 hb.size⟩)), h.ag.trans (Ag.of_below _ hb)⟩
theorem RefAt.cont {R : Nat → Prop} {w wr w' : World} {q : Nat} {L L' : List En} (h : RefAt R w wr q L) (h1 : RefS (fun b => (R b ∨ Fresh w wr b) ∨ Fresh wr w' b) w' q L') (h2 : Ag (fun k => ¬ (R k ∨ Fresh w wr k)) wr w') : RefAt R w w' q L' := by
  have hs := h.ag.size
  have hs2 := h2.size
  refine ⟨h1.mono (fun b hb => ?_), ⟨h2.os.trans h.ag.os, h2.tape.trans h.ag.tape, h2.output.trans h.ag.output, by omega, fun b hb hR => (h2.block b (by omega) (fun hx => ?_)).trans (h.ag.block b hb hR)⟩⟩
  · rcases hb with (hb | hb) | hb
    · exact .inl hb
    · exact .inr ⟨hb.1, by have := hb.2; omega⟩
    · exact .inr ⟨by have := hb.1; omega, hb.2⟩
  · rcases hx with hx | hx
    · exact hR hx
    · have := hx.1; omega
set_option maxHeartbeats 4000000 in
theorem refFit_S (R K : Nat → Prop) (w : World) (q : Nat) (es ns : List En) (i t : Int) (A : Option Addr) (c : Nat) (h : RefS R w q es) (hR : ∀ b, R b → b < w.heap.size) (ha : Ents w K A c ns) (hK : ∀ b, K b → b < w.heap.size ∧ ¬ R b) (hs : es.length + ns.length ≤ 100000) (hd : ∀ e ∈ ns, e.data.length ≤ 1000000) :
    Calls Tryz.prog 38 #[.pointer (some ⟨q, 0, none⟩), .int .i64 i, .int .i64 t, .slice A ns.length c] w (RefFitEnd R w q es ns i t) := by
  obtain ⟨i0, hi, hz0, hz1, hz2⟩ := info_parts info37
  by_cases h1 : hasAt es i = true
  · by_cases h2 : termAt es i = t
    · have hq : 0 ≤ i ∧ i ≤ es.length := by simpa [hasAt] using h1
      have t1 : (termAt es i != t) = false := by simp [h2]
      have H1 := Lib.hid h1
      have H2 := Lib.hid h2
      obtain ⟨n, rfl⟩ : ∃ n : Nat, i = n := ⟨i.toNat, by omega⟩
      obtain ⟨q1, q2⟩ := hq
      clear h2
      go_enter Tryz.func38, Tryz.ntmps38
      go_wp2_with (go_at_call 18; refine (refTerm_S R w q es _ h).mono ?_; rintro _ w2 ⟨rfl, hb⟩)
      have hA0 : RefAt R w w2 q es := ⟨(h.below hb).mono (fun b hb => .inl hb), Ag.of_below _ hb⟩
      clear hb h h1
      go_loopw [13, 14] (fun cg v wr => ∃ (j : Nat) (chg : Int) (L : List En), j ≤ ns.length ∧ cg = .int .i64 chg ∧ v = .int .i64 j ∧ FitSt es ns n j chg L ∧ RefAt R w wr q L) (fun _ v _ => ns.length - (intOf v).toNat)
      case atStart => exact ⟨0, 0, es, Nat.zero_le _, rfl, rfl, .inl ⟨rfl, rfl, fun q hq => absurd hq (by omega)⟩, hA0⟩
      case round =>
        clear hA0
        obtain ⟨j, chg, L, hj, rfl, rfl, hF, hA⟩ := hrel
        have HF := Lib.hid hF
        clear hF
        by_cases hlt : j < ns.length
        · have d1 : decide ((j : Int) < (ns.length : Int)) = true := decide_eq_true (by omega)
          obtain ⟨a, y, D, d, rfl, ka, hy, ca, ra, la, ma⟩ := (ha.keep (w' := wr) (K' := K) (fun b hb' => hA.ag.block b (hK b hb').1 (hK b hb').2) (fun _ h => h)).at_ hlt
          obtain ⟨a0, a1, a2, a3, a4, a5⟩ := en6 ca
          clear ca
          have hyd := hd y (List.mem_of_getElem? hy.out)
          have hLl := HF.out.len
          have kp : ∀ (W : World), Below wr.heap.size wr W → ∀ (p : Addr) u, wr.cell? p = some u → W.cell? p = some u := fun W hW p u hu => (hW.cell (World.block_lt_of_cell? wr _ hu)).trans hu
          by_cases h0 : chg = 0
          · subst h0
            have HL := Lib.hid HF.out.same.1
            have hle := fit_le HF.out.same.2 (by omega : n ≤ es.length)
            by_cases hin : n + j < es.length
            · have hx := List.getElem?_eq_getElem hin
              generalize es[n + j] = x at hx
              have HT := Lib.hid (fit_term hx)
              have HX := Lib.hid hx
              have HH : Hid (hasAt es ((n : Int) + 1 + j) = true) := Lib.hid (by rw [fit_has]; exact decide_eq_true hin)
              by_cases hxy : x.term = y.term
              · have te : (x.term == y.term) = true := by simp [hxy]
                have HJ := Lib.hid (HF.out.hit ⟨x, y, HX.out, hy.out, hxy⟩)
                clear hxy hx hin
                go_wp2_with (go_at_call 18; refine (refTerm_S _ wr q L _ hA.ref).mono ?_; rintro _ w3 ⟨rfl, hb3⟩; rw [HL.out, HT.out, HH.out]; have a0' := kp w3 hb3 _ _ a0)
                go_roundw
                case rel => exact ⟨j + 1, 0, L, by omega, rfl, by go_num, HJ.out, hA.below hb3⟩
                case measure => simp [intOf]; omega
              · have te : (x.term == y.term) = false := by simp [hxy]
                have HN := Lib.hid (fit_no HX.out hy.out hxy)
                clear hxy hx
                go_wp2_with (go_at_call 18; refine (refTerm_S _ wr q L _ hA.ref).mono ?_; rintro _ w3 ⟨rfl, hb3⟩; rw [HL.out, HT.out, HH.out]; have a0' := kp w3 hb3 _ _ a0; obtain ⟨A0, cap0, KL, ds, hO⟩ := (hA.below hb3).ref.opn; have q0 : w3.cell? ⟨q, 0, none⟩ = some (.slice A0 L.length cap0) := by { rw [cell_of_row w3 q 0 _ _ _ hO.r1]; rfl }; have hfq := frozen_blk hO.r1 0; have hcap := hO.cap; have hLe : L.length = es.length := by rw [HL.out])
                obtain ⟨Lc, HLc⟩ : ∃ Lc : List En, Hid (Lc = es.take (n + j)) := ⟨_, rfl⟩
                have hLcl : Lc.length ≤ es.length := by rw [HLc.out]; simp; omega
                have hAt : RefAt R w (w3.setCell ⟨q, 0, none⟩ (.slice A0 (n + j) cap0)) q Lc := by
                  have h5 := (hO.cut (m := n + j) (by omega)).shut
                  rw [HLc.out, ← HL.out]
                  exact ⟨h5.mono (fun b hb => hb.imp id (fun h => ⟨h.1, by simpa [World.setCell] using h.2⟩)), (hA.below hb3).ag.setCell (fun hlt' hn => hO.r0.elim hn (fun h => by have := h.1; simp only [] at hlt'; omega)) _⟩
                have HMi := Lib.hid (HF.out.miss (by omega : n ≤ es.length) HN.out hy.out)
                rw [← HLc.out] at HMi
                clear hO q0 hfq a0' hb3
                generalize w3.setCell ⟨q, 0, none⟩ (.slice A0 (n + j) cap0) = wc at *
                have hAc := hAt.ag
                obtain ⟨A1, cap1, KL1, ds1, hO1⟩ := hAt.ref.opn
                have kb : ∀ b, K b → wc.heap[b]? = wr.heap[b]? := fun b hb' => (hAc.block b (hK b hb').1 (hK b hb').2).trans (hA.ag.block b (hK b hb').1 (hK b hb').2).symm
                have kc : wc.heap[(a.add (j * 6)).block]? = wr.heap[(a.add (j * 6)).block]? := by rw [add_blk]; exact kb _ ka
                have kcell : ∀ (p : Addr) u, wr.cell? p = some u → p.block = (a.add (j * 6)).block → wc.cell? p = some u := fun p u hu hp => (World.cell?_of_block (by rw [hp]; exact kc)).trans hu
                have b0 := kcell _ _ a0 rfl
                have b1 := kcell _ _ a1 rfl
                have b2 := kcell _ _ a2 rfl
                have b3 := kcell _ _ a3 rfl
                have b4 := kcell _ _ a4 rfl
                have b5 := kcell _ _ a5 rfl
                have hcon := CopyEntry_any K y D d wc.drew (ra.keep (fun b hb' => kb b hb') (fun _ h => h)) (fun b hb' => by have := (hK b hb').1; have := hAc.size; show b < wc.heap.size; omega) hyd
                simp only [enA, enV] at hcon
                have p0 : wc.cell? ⟨q, 0, none⟩ = some (.slice A1 Lc.length cap1) := by rw [cell_of_row wc q 0 _ _ _ hO1.r1]; rfl
                have hfx := frozen_blk hO1.r1 0
                have hqa : q < wc.heap.size := (Array.getElem?_eq_some_iff.1 hO1.r1).1
                have rowK : ∀ W : World, (∀ g, (Value.slice A1 Lc.length cap1).ownBlock = some g → W.heap[g]? = wc.heap[g]?) → W.ownsRow 0 53 6 (.slice A1 Lc.length cap1) Lc.length (rowV Lc ds1) := fun W hW => owns_keep hO1.r2.own hW
                have r3 := hO1.r3
                have i1 : (0 : Int) ≤ (j : Int) := by omega
                have i2 : (j : Int) < (ns.length : Int) := by omega
                clear kc kb kcell a0 a1 a2 a3 a4 a5 kp
                go_region_law (first
                  | (refine step_append_full _ (by rfl) (.tmp 78) (.tmp 84) 22 (by rfl) 53 i0 _ 6 _ Tryz.underlying22 hi hz0 hz1 hz2 rfl 0 (.slice A1 Lc.length cap1) Lc.length (rowV Lc ds1) (by rfl) (rowK _ ?_) (Nat.zero_le _) ⟨w5.heap.size, 0, none⟩ 1 1 (enV y A' c') (by rfl) (by rfl) ?_ ?_ ?_ ?_ (by decide) ?_
                     · intro g hg
                       have h3 := (owns_block hO1.r2.own g hg).2
                       exact (heap_alloc_old w5 _ (Nat.lt_of_lt_of_le h3 hbo.size)).trans (hbo.block g h3)
                     · exact news_new w5 (enV y A' c') 53
                     · exact enV_one y A' c'
                     · unfold maxLen; omega
                     · omega
                     intro v2 w6 g2 hrow2 hgr hv2 hg2
                     have ob3 : w6.heap[q]? = some (.cells #[.slice A1 Lc.length cap1] 40 (0, 0)) := (hgr.block q (by have := hbo.size; simp; exact Nat.lt_succ_of_lt (Nat.lt_of_lt_of_le hqa this)) (fun h => (r3 q h.symm).2 rfl)).trans ((heap_alloc_old w5 _ (Nat.lt_of_lt_of_le hqa hbo.size)).trans ob2)
                     have oc3 : w6.cell? ⟨q, 0, none⟩ = some (.slice A1 Lc.length cap1) := by rw [cell_of_row w6 q 0 _ _ _ ob3]; rfl
                     have of3 := frozen_blk ob3 0
                     obtain ⟨A2, cap2, rfl⟩ := owns_form hrow2)
                  | (go_simp; go_at_call 46; refine hcon.mono ?_; rintro _ w5 ⟨A', c', rfl, hr2, hbo⟩
                     have ob2 : w5.heap[q]? = some (.cells #[.slice A1 Lc.length cap1] 40 (0, 0)) := (hbo.block q hqa).trans hO1.r1
                     have oc2 : w5.cell? ⟨q, 0, none⟩ = some (.slice A1 Lc.length cap1) := by rw [cell_of_row w5 q 0 _ _ _ ob2]; rfl
                     have oc2' : ∀ o, (w5.alloc o).cell? ⟨q, 0, none⟩ = some (.slice A1 Lc.length cap1) := fun o => (World.cell?_of_block (heap_alloc_old w5 o (Array.getElem?_eq_some_iff.1 ob2).1)).trans oc2))
                all_goals
                  obtain ⟨s1, s2⟩ := RefS.step hO1.r0 hO1.r1 hO1.r2 hO1.r3 hO1.r4 (Ag.refl _ _) (((Below.refl _ _).drew).trans hbo) (hr2.keep (fun _ _ _ => rfl) (Nat.le_refl _) (fun b hb _ => hb)) ((Below.refl _ _).alloc (Nat.le_refl _) _) hgr hrow2 hv2 (by simpa using hg2)
                  have hA6 := hAt.cont s1 s2
                  clear hrow2 hgr hg2 hbo rowK hcon hO1 r3 ob2 ob3 oc2 oc2' hfx b0 b1 b2 b3 b4 b5 p0 hr2 s1 s2 hAt hA
                  go_wp2_with fail
                  go_roundw
                  case rel => exact ⟨j + 1, _, Lc ++ [y], by omega, rfl, by go_num, HMi.out, hA6⟩
                  case measure => simp [intOf]; omega
            · have HN := Lib.hid (fit_out (ns := ns) hin)
              have HH : Hid (hasAt es ((n : Int) + 1 + j) = false) := Lib.hid (by rw [fit_has]; exact decide_eq_false hin)
              go_wp2_with (go_at_call 18; refine (refTerm_S _ wr q L _ hA.ref).mono ?_; rintro _ w3 ⟨rfl, hb3⟩; rw [HL.out, HH.out]; have a0' := kp w3 hb3 _ _ a0; obtain ⟨A0, cap0, KL, ds, hO⟩ := (hA.below hb3).ref.opn; have q0 : w3.cell? ⟨q, 0, none⟩ = some (.slice A0 L.length cap0) := by { rw [cell_of_row w3 q 0 _ _ _ hO.r1]; rfl }; have hfq := frozen_blk hO.r1 0; have hcap := hO.cap; have hLe : L.length = es.length := by rw [HL.out])
              obtain ⟨Lc, HLc⟩ : ∃ Lc : List En, Hid (Lc = es.take (n + j)) := ⟨_, rfl⟩
              have hLcl : Lc.length ≤ es.length := by rw [HLc.out]; simp; omega
              have hAt : RefAt R w (w3.setCell ⟨q, 0, none⟩ (.slice A0 (n + j) cap0)) q Lc := by
                have h5 := (hO.cut (m := n + j) (by omega)).shut
                rw [HLc.out, ← HL.out]
                exact ⟨h5.mono (fun b hb => hb.imp id (fun h => ⟨h.1, by simpa [World.setCell] using h.2⟩)), (hA.below hb3).ag.setCell (fun hlt' hn => hO.r0.elim hn (fun h => by have := h.1; simp only [] at hlt'; omega)) _⟩
              have HMi := Lib.hid (HF.out.miss (by omega : n ≤ es.length) HN.out hy.out)
              rw [← HLc.out] at HMi
              clear hO q0 hfq a0' hb3
              generalize w3.setCell ⟨q, 0, none⟩ (.slice A0 (n + j) cap0) = wc at *
              have hAc := hAt.ag
              obtain ⟨A1, cap1, KL1, ds1, hO1⟩ := hAt.ref.opn
              have kb : ∀ b, K b → wc.heap[b]? = wr.heap[b]? := fun b hb' => (hAc.block b (hK b hb').1 (hK b hb').2).trans (hA.ag.block b (hK b hb').1 (hK b hb').2).symm
              have kc : wc.heap[(a.add (j * 6)).block]? = wr.heap[(a.add (j * 6)).block]? := by rw [add_blk]; exact kb _ ka
              have kcell : ∀ (p : Addr) u, wr.cell? p = some u → p.block = (a.add (j * 6)).block → wc.cell? p = some u := fun p u hu hp => (World.cell?_of_block (by rw [hp]; exact kc)).trans hu
              have b0 := kcell _ _ a0 rfl
              have b1 := kcell _ _ a1 rfl
              have b2 := kcell _ _ a2 rfl
              have b3 := kcell _ _ a3 rfl
              have b4 := kcell _ _ a4 rfl
              have b5 := kcell _ _ a5 rfl
              have hcon := CopyEntry_any K y D d wc.drew (ra.keep (fun b hb' => kb b hb') (fun _ h => h)) (fun b hb' => by have := (hK b hb').1; have := hAc.size; show b < wc.heap.size; omega) hyd
              simp only [enA, enV] at hcon
              have p0 : wc.cell? ⟨q, 0, none⟩ = some (.slice A1 Lc.length cap1) := by rw [cell_of_row wc q 0 _ _ _ hO1.r1]; rfl
              have hfx := frozen_blk hO1.r1 0
              have hqa : q < wc.heap.size := (Array.getElem?_eq_some_iff.1 hO1.r1).1
              have rowK : ∀ W : World, (∀ g, (Value.slice A1 Lc.length cap1).ownBlock = some g → W.heap[g]? = wc.heap[g]?) → W.ownsRow 0 53 6 (.slice A1 Lc.length cap1) Lc.length (rowV Lc ds1) := fun W hW => owns_keep hO1.r2.own hW
              have r3 := hO1.r3
              have i1 : (0 : Int) ≤ (j : Int) := by omega
              have i2 : (j : Int) < (ns.length : Int) := by omega
              clear kc kb kcell a0 a1 a2 a3 a4 a5 kp
              go_region_law (first
                | (refine step_append_full _ (by rfl) (.tmp 78) (.tmp 84) 22 (by rfl) 53 i0 _ 6 _ Tryz.underlying22 hi hz0 hz1 hz2 rfl 0 (.slice A1 Lc.length cap1) Lc.length (rowV Lc ds1) (by rfl) (rowK _ ?_) (Nat.zero_le _) ⟨w5.heap.size, 0, none⟩ 1 1 (enV y A' c') (by rfl) (by rfl) ?_ ?_ ?_ ?_ (by decide) ?_
                   · intro g hg
                     have h3 := (owns_block hO1.r2.own g hg).2
                     exact (heap_alloc_old w5 _ (Nat.lt_of_lt_of_le h3 hbo.size)).trans (hbo.block g h3)
                   · exact news_new w5 (enV y A' c') 53
                   · exact enV_one y A' c'
                   · unfold maxLen; omega
                   · omega
                   intro v2 w6 g2 hrow2 hgr hv2 hg2
                   have ob3 : w6.heap[q]? = some (.cells #[.slice A1 Lc.length cap1] 40 (0, 0)) := (hgr.block q (by have := hbo.size; simp; exact Nat.lt_succ_of_lt (Nat.lt_of_lt_of_le hqa this)) (fun h => (r3 q h.symm).2 rfl)).trans ((heap_alloc_old w5 _ (Nat.lt_of_lt_of_le hqa hbo.size)).trans ob2)
                   have oc3 : w6.cell? ⟨q, 0, none⟩ = some (.slice A1 Lc.length cap1) := by rw [cell_of_row w6 q 0 _ _ _ ob3]; rfl
                   have of3 := frozen_blk ob3 0
                   obtain ⟨A2, cap2, rfl⟩ := owns_form hrow2)
                | (go_simp; go_at_call 46; refine hcon.mono ?_; rintro _ w5 ⟨A', c', rfl, hr2, hbo⟩
                   have ob2 : w5.heap[q]? = some (.cells #[.slice A1 Lc.length cap1] 40 (0, 0)) := (hbo.block q hqa).trans hO1.r1
                   have oc2 : w5.cell? ⟨q, 0, none⟩ = some (.slice A1 Lc.length cap1) := by rw [cell_of_row w5 q 0 _ _ _ ob2]; rfl
                   have oc2' : ∀ o, (w5.alloc o).cell? ⟨q, 0, none⟩ = some (.slice A1 Lc.length cap1) := fun o => (World.cell?_of_block (heap_alloc_old w5 o (Array.getElem?_eq_some_iff.1 ob2).1)).trans oc2))
              all_goals
                obtain ⟨s1, s2⟩ := RefS.step hO1.r0 hO1.r1 hO1.r2 hO1.r3 hO1.r4 (Ag.refl _ _) (((Below.refl _ _).drew).trans hbo) (hr2.keep (fun _ _ _ => rfl) (Nat.le_refl _) (fun b hb _ => hb)) ((Below.refl _ _).alloc (Nat.le_refl _) _) hgr hrow2 hv2 (by simpa using hg2)
                have hA6 := hAt.cont s1 s2
                clear hrow2 hgr hg2 hbo rowK hcon hO1 r3 ob2 ob3 oc2 oc2' hfx b0 b1 b2 b3 b4 b5 p0 hr2 s1 s2 hAt hA
                go_wp2_with fail
                go_roundw
                case rel => exact ⟨j + 1, _, Lc ++ [y], by omega, rfl, by go_num, HMi.out, hA6⟩
                case measure => simp [intOf]; omega
          · have hne : (chg == 0) = false := by simp [h0]
            have HM := Lib.hid (HF.out.more h0 hy.out)
            clear h0
            go_wp2_with (go_at_call 18; refine (refTerm_S _ wr q L _ hA.ref).mono ?_; rintro _ w3 ⟨rfl, hb3⟩)
            obtain ⟨Lc, rfl⟩ : ∃ Lc : List En, Lc = L := ⟨_, rfl⟩
            have hAt := hA.below hb3
            clear hb3
            obtain ⟨wc, rfl⟩ : ∃ wc : World, wc = w3 := ⟨_, rfl⟩
            have hAc := hAt.ag
            obtain ⟨A1, cap1, KL1, ds1, hO1⟩ := hAt.ref.opn
            have kb : ∀ b, K b → wc.heap[b]? = wr.heap[b]? := fun b hb' => (hAc.block b (hK b hb').1 (hK b hb').2).trans (hA.ag.block b (hK b hb').1 (hK b hb').2).symm
            have kc : wc.heap[(a.add (j * 6)).block]? = wr.heap[(a.add (j * 6)).block]? := by rw [add_blk]; exact kb _ ka
            have kcell : ∀ (p : Addr) u, wr.cell? p = some u → p.block = (a.add (j * 6)).block → wc.cell? p = some u := fun p u hu hp => (World.cell?_of_block (by rw [hp]; exact kc)).trans hu
            have b0 := kcell _ _ a0 rfl
            have b1 := kcell _ _ a1 rfl
            have b2 := kcell _ _ a2 rfl
            have b3 := kcell _ _ a3 rfl
            have b4 := kcell _ _ a4 rfl
            have b5 := kcell _ _ a5 rfl
            have hcon := CopyEntry_any K y D d wc.drew (ra.keep (fun b hb' => kb b hb') (fun _ h => h)) (fun b hb' => by have := (hK b hb').1; have := hAc.size; show b < wc.heap.size; omega) hyd
            simp only [enA, enV] at hcon
            have p0 : wc.cell? ⟨q, 0, none⟩ = some (.slice A1 Lc.length cap1) := by rw [cell_of_row wc q 0 _ _ _ hO1.r1]; rfl
            have hfx := frozen_blk hO1.r1 0
            have hqa : q < wc.heap.size := (Array.getElem?_eq_some_iff.1 hO1.r1).1
            have rowK : ∀ W : World, (∀ g, (Value.slice A1 Lc.length cap1).ownBlock = some g → W.heap[g]? = wc.heap[g]?) → W.ownsRow 0 53 6 (.slice A1 Lc.length cap1) Lc.length (rowV Lc ds1) := fun W hW => owns_keep hO1.r2.own hW
            have r3 := hO1.r3
            have i1 : (0 : Int) ≤ (j : Int) := by omega
            have i2 : (j : Int) < (ns.length : Int) := by omega
            clear kc kb kcell a0 a1 a2 a3 a4 a5 kp
            go_region_law (first
              | (refine step_append_full _ (by rfl) (.tmp 78) (.tmp 84) 22 (by rfl) 53 i0 _ 6 _ Tryz.underlying22 hi hz0 hz1 hz2 rfl 0 (.slice A1 Lc.length cap1) Lc.length (rowV Lc ds1) (by rfl) (rowK _ ?_) (Nat.zero_le _) ⟨w5.heap.size, 0, none⟩ 1 1 (enV y A' c') (by rfl) (by rfl) ?_ ?_ ?_ ?_ (by decide) ?_
                 · intro g hg
                   have h3 := (owns_block hO1.r2.own g hg).2
                   exact (heap_alloc_old w5 _ (Nat.lt_of_lt_of_le h3 hbo.size)).trans (hbo.block g h3)
                 · exact news_new w5 (enV y A' c') 53
                 · exact enV_one y A' c'
                 · unfold maxLen; omega
                 · omega
                 intro v2 w6 g2 hrow2 hgr hv2 hg2
                 have ob3 : w6.heap[q]? = some (.cells #[.slice A1 Lc.length cap1] 40 (0, 0)) := (hgr.block q (by have := hbo.size; simp; exact Nat.lt_succ_of_lt (Nat.lt_of_lt_of_le hqa this)) (fun h => (r3 q h.symm).2 rfl)).trans ((heap_alloc_old w5 _ (Nat.lt_of_lt_of_le hqa hbo.size)).trans ob2)
                 have oc3 : w6.cell? ⟨q, 0, none⟩ = some (.slice A1 Lc.length cap1) := by rw [cell_of_row w6 q 0 _ _ _ ob3]; rfl
                 have of3 := frozen_blk ob3 0
                 obtain ⟨A2, cap2, rfl⟩ := owns_form hrow2)
              | (go_simp; go_at_call 46; refine hcon.mono ?_; rintro _ w5 ⟨A', c', rfl, hr2, hbo⟩
                 have ob2 : w5.heap[q]? = some (.cells #[.slice A1 Lc.length cap1] 40 (0, 0)) := (hbo.block q hqa).trans hO1.r1
                 have oc2 : w5.cell? ⟨q, 0, none⟩ = some (.slice A1 Lc.length cap1) := by rw [cell_of_row w5 q 0 _ _ _ ob2]; rfl
                 have oc2' : ∀ o, (w5.alloc o).cell? ⟨q, 0, none⟩ = some (.slice A1 Lc.length cap1) := fun o => (World.cell?_of_block (heap_alloc_old w5 o (Array.getElem?_eq_some_iff.1 ob2).1)).trans oc2))
            all_goals
              obtain ⟨s1, s2⟩ := RefS.step hO1.r0 hO1.r1 hO1.r2 hO1.r3 hO1.r4 (Ag.refl _ _) (((Below.refl _ _).drew).trans hbo) (hr2.keep (fun _ _ _ => rfl) (Nat.le_refl _) (fun b hb _ => hb)) ((Below.refl _ _).alloc (Nat.le_refl _) _) hgr hrow2 hv2 (by simpa using hg2)
              have hA6 := hAt.cont s1 s2
              clear hrow2 hgr hg2 hbo rowK hcon hO1 r3 ob2 ob3 oc2 oc2' hfx b0 b1 b2 b3 b4 b5 p0 hr2 s1 s2 hAt hA
              go_wp2_with fail
              go_roundw
              case rel => exact ⟨j + 1, _, Lc ++ [y], by omega, rfl, by go_num, HM.out, hA6⟩
              case measure => simp [intOf]; omega
        · have d1 : decide ((j : Int) < (ns.length : Int)) = false := decide_eq_false (by omega)
          obtain rfl : j = ns.length := by omega
          go_wp2_with fail
          go_ret3
          exact ⟨_, chg, true, L, rfl, HF.out.done H1.out H2.out, hA.ref, hA.ag⟩
    · have t1 : (termAt es i != t) = true := by simp [h2]
      go_enter Tryz.func38, Tryz.ntmps38
      go_wp2_with (go_at_call 18; refine (refTerm_S R w q es _ h).mono ?_; rintro _ w2 ⟨rfl, hb⟩)
      go_ret3
      exact ⟨0, 0, false, es, rfl, .inl ⟨fun h => h2 h.2, rfl, rfl, rfl, rfl⟩, (h.below hb).mono (fun b hb => .inl hb), Ag.of_below _ hb⟩
  · have h1' : hasAt es i = false := by simpa using h1
    go_enter Tryz.func38, Tryz.ntmps38
    go_wp2_with (go_at_call 18; refine (refTerm_S R w q es _ h).mono ?_; rintro _ w2 ⟨rfl, hb⟩)
    go_ret3
    exact ⟨0, 0, false, es, rfl, .inl ⟨fun h => h1 h.1, rfl, rfl, rfl, rfl⟩, (h.below hb).mono (fun b hb => .inl hb), Ag.of_below _ hb⟩
end Go.Proofs.YtcbomcbflmgmhaaGreat
