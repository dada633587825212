/- From at no number, the reference's From: over this seat's program. -/
import Derived.Test.YtcbomcbflmgmhaaGreatKRef2
namespace Go.Proofs.YtcbomcbflmgmhaaGreat
open Go.RowKit
set_option linter.unusedVariables false
set_option maxRecDepth 100000

theorem FromK_low (B : Nat) (w : World) (p : Nat) (es : List En) (i most : Int) (h : Has B w p es) (hm : ¬ 1 ≤ most) :
    Calls Tryz.prog 16 #[.pointer (some ⟨p, 0, none⟩), .int .i64 i, .int .i64 most] w (FromPK w ((fromI es i).take most.toNat)) := by
  obtain ⟨g, v, ds, hL, _⟩ := h
  have hp := hL.plt
  have hb : Below w.heap.size w ((w.alloc (.cells #[.int .i64 most] 3)).alloc (.cells #[.slice none 0 0] 22)) := below2 w _ _ 0
  have hc1 : ((w.alloc (.cells #[.int .i64 most] 3)).alloc (.cells #[.slice none 0 0] 22)).cell? ⟨p, 1, none⟩ = some (.bool true) := (World.cell?_of_block (keep2 w _ _ p hp)).trans hL.c1
  have d1 : decide (most < 1) = true := decide_eq_true (by omega)
  have hn : most.toNat = 0 := by omega
  rw [hn, List.take_zero]
  clear hn
  go_enter Tryz.func16, Tryz.ntmps16
  go_wp2_with (go_at_call 39; refine (known_true p _ hc1).mono ?_; rintro _ w1 ⟨rfl, rfl⟩)
  go_ret
  exact ⟨_, 0, [], rfl, ⟨Row.nil _ _ _ _, rfl, (fun e => by cases e), fun i e d hi => by simp at hi, fun i j d d' a a' hi => by simp at hi⟩, hb⟩
theorem FromKS (B : Nat) (w : World) (p : Nat) (es : List En) (i most : Int) (h : Has B w p es) (hes : es.length ≤ 100000) (hd : ∀ e ∈ es, e.data.length ≤ 100000000) :
    Calls Tryz.prog 16 #[.pointer (some ⟨p, 0, none⟩), .int .i64 i, .int .i64 most] w (FromPK w ((fromI es i).take most.toNat)) := by
  by_cases hm : 1 ≤ most
  · exact FromK_any B w p es i most h hes hd hm
  · exact FromK_low B w p es i most h hm
/-- What the reference's From gathers: j entries from i on. -/
theorem fromI_take_succ {es : List En} {i : Int} {j : Nat} {e : En} (h1 : 1 ≤ i) (he : es[(i - 1).toNat + j]? = some e) : (fromI es i).take (j + 1) = (fromI es i).take j ++ [e] := by
  unfold fromI
  rw [if_pos h1, List.take_add_one, List.getElem?_drop, he]; rfl
/-- What the reference's From tells. -/
def RefFromP (w : World) (ens : List En) (e : Ending) (w' : World) : Prop := ∃ A c, e = .returned (.slice A ens.length c) ∧ Ents w' (fun b => b < w'.heap.size) A c ens ∧ Below w.heap.size w w'
/-- The reference's From has gathered j entries, in v. -/
structure GotJ (es : List En) (K : Nat → Prop) (w : World) (i most : Int) (j : Nat) (ti : Int) (ds : List (Option Addr × Nat)) (v : Value) (wr : World) : Prop where
  ti_ : ti = i + j
  le : j = 0 ∨ (1 ≤ i ∧ i + j ≤ es.length + 1)
  mo : j = 0 ∨ (j : Int) ≤ most
  len : ds.length = j
  own : wr.ownsRow w.heap.size 53 6 v j (rowV ((fromI es i).take j) ds)
  data : ∀ (k : Nat) (e : En) (d : Option Addr × Nat), ((fromI es i).take j)[k]? = some e → ds[k]? = some d → Rd w K d.1 d.2 (u8s e.data) ∧ e.data.length ≤ d.2 ∧ d.2 ≤ maxLen
  low : Below w.heap.size w wr
theorem GotJ.lenJ {es : List En} {K : Nat → Prop} {w wr : World} {i most ti : Int} {j : Nat} {ds : List (Option Addr × Nat)} {v : Value} (h : GotJ es K w i most j ti ds v wr) : ((fromI es i).take j).length = j := by
  rcases h.le with h1 | ⟨h1, h2⟩
  · rw [h1]; simp
  · unfold fromI
    rw [if_pos h1]
    simp
    omega
theorem GotJ.step {es : List En} {K : Nat → Prop} {w wr w3 : World} {i most : Int} {j m : Nat} {ds : List (Option Addr × Nat)} {v v' : Value} {x : En} {D : Option Addr} {d : Nat} {o : Obj} (h : GotJ es K w i most j (m + 1) ds v wr) (hx : es[m]? = some x) (hr : Rd w K D d (u8s x.data)) (hl : x.data.length ≤ d) (hm : d ≤ maxLen)
    (h1 : 1 ≤ (m : Int) + 1) (h2 : (m : Int) + 1 ≤ es.length) (h3 : (j : Int) < most) (hgr : (wr.alloc o).grownBy w3 v.ownBlock) (hown : w3.ownsRow w.heap.size 53 6 v' (j + 1) (rowV ((fromI es i).take j) ds ++ enV x D d)) :
    GotJ es K w i most (j + 1) ((m : Int) + 1 + 1) (ds ++ [(D, d)]) v' w3 := by
  have ht := h.ti_
  have hi : 1 ≤ i := by
    rcases h.le with h' | h'
    · rw [h'] at ht; omega
    · exact h'.1
  have hlj := h.lenJ
  have hxm : es[(i - 1).toNat + j]? = some x := by rw [← hx]; congr 1; omega
  have hs := fromI_take_succ hi hxm
  refine ⟨by omega, .inr ⟨hi, by omega⟩, .inr (by omega), by simp [h.len], ?_, fun k e d' hk hd' => ?_, ?_⟩
  · rw [hs, rowV_snoc _ _ _ _ (by rw [h.len, hlj])]
    exact hown
  · rw [hs] at hk
    rcases Nat.lt_or_ge k j with h' | h'
    · rw [List.getElem?_append_left (by rw [hlj]; exact h')] at hk
      rw [List.getElem?_append_left (by rw [h.len]; exact h')] at hd'
      exact h.data k e d' hk hd'
    · have hk0 : k = j := by have := (List.getElem?_eq_some_iff.1 hk).1; simp [hlj] at this; omega
      subst hk0
      rw [List.getElem?_append_right (by rw [hlj]; exact Nat.le_refl _)] at hk
      rw [List.getElem?_append_right (by rw [h.len]; exact Nat.le_refl _)] at hd'
      simp [hlj] at hk
      simp [h.len] at hd'
      subst hk hd'
      exact ⟨hr, hl, hm⟩
  · have hs' := h.low.size
    exact (h.low.alloc hs' _).grown hgr (by simp; omega) (fun g e => (owns_block h.own g e).1)
theorem GotJ.fin {es : List En} {K : Nat → Prop} {w wr : World} {i most ti : Int} {j : Nat} {ds : List (Option Addr × Nat)} {A : Option Addr} {c : Nat} {R : Nat → Prop} (h : GotJ es K w i most j ti ds (.slice A j c) wr) (hK : ∀ b, K b → b < w.heap.size ∧ R b)
    (hc : ¬ 1 ≤ ti ∨ ¬ ti ≤ es.length ∨ ¬ (j : Int) < most) :
    ∃ A' c', Ending.returned (.slice A j c) = .returned (.slice A' ((fromI es i).take most.toNat).length c') ∧ Ents wr (fun b => b < wr.heap.size) A' c' ((fromI es i).take most.toNat) ∧ Below w.heap.size w wr := by
  have ht := h.ti_
  have hlj := h.lenJ
  have heq : (fromI es i).take most.toNat = (fromI es i).take j := by
    by_cases hi : 1 ≤ i
    · have hfl : (fromI es i).length = es.length - (i - 1).toNat := by unfold fromI; rw [if_pos hi]; simp
      rcases hc with hc | hc | hc
      · omega
      · rcases h.mo with h1 | h1
        · have : fromI es i = [] := List.eq_nil_of_length_eq_zero (by rw [hfl]; omega)
          rw [this]; simp
        · rw [List.take_of_length_le (by rw [hfl]; omega), List.take_of_length_le (by rw [hfl]; omega)]
      · rcases h.mo with h1 | h1
        · rw [h1, show most.toNat = 0 by omega]
        · rw [show most.toNat = j by omega]
    · have : fromI es i = [] := by unfold fromI; rw [if_neg hi]
      rw [this]; simp
  rw [heq, hlj]
  refine ⟨A, c, rfl, ?_, h.low⟩
  have hcell : ∀ g, (Value.slice A j c).ownBlock = some g → _ := fun g hg => World.ownsRow.cells (g := g) h.own hg
  rcases h.own.2 with ⟨h1, h2⟩ | ⟨g, cap, cur, h1, hb, hg, h2, h3, h4, h5⟩
  · injection h1 with h1 _ h3
    subst h1 h3
    subst h2
    exact ⟨fun _ => rfl, by simp, by decide, fun h => by simp at h⟩
  · injection h1 with h1 _ h1'
    subst h1 h1'
    have hvg : (Value.slice (some ⟨g, 0, none⟩) j c).ownBlock = some g := rfl
    refine ⟨(fun e => by cases e), by rw [hlj]; exact h2, h3, fun _ => ⟨_, rfl, fun k e hk => ?_⟩⟩
    have hkl : k < j := by have := (List.getElem?_eq_some_iff.1 hk).1; rw [hlj] at this; exact this
    have hkd : k < ds.length := by rw [h.len]; exact hkl
    obtain ⟨r1, r2, r3⟩ := h.data k e ds[k] hk (List.getElem?_eq_getElem hkd)
    refine ⟨ds[k].1, ds[k].2, ?_, fun q hq => ?_, r1.keep (fun b hb' => h.low.block b (hK b hb').1) (fun b hb' => Nat.lt_of_lt_of_le (hK b hb').1 h.low.size), r2, r3⟩
    · rw [add_blk]
      exact (Array.getElem?_eq_some_iff.1 hg).1
    · have hv := rowV_get ((fromI es i).take j) ds k e ds[k] hk (List.getElem?_eq_getElem hkd) q hq
      have hq' : q < (enV e ds[k].1 ds[k].2).length := by simpa [enV] using hq
      rw [add_add _ _ _ rfl, List.getElem?_eq_getElem hq']
      exact hcell g hvg _ _ (by rw [hv, List.getElem?_eq_getElem hq'])
set_option maxHeartbeats 1000000 in
theorem refFrom_S (R : Nat → Prop) (w : World) (q : Nat) (es : List En) (i most : Int) (h : RefS R w q es) (hes : es.length ≤ 100000) :
    Calls Tryz.prog 32 #[.pointer (some ⟨q, 0, none⟩), .int .i64 i, .int .i64 most] w (RefFromP w ((fromI es i).take most.toNat)) := by
  obtain ⟨A, c, K, h0, he, hq, hK⟩ := h.c0
  obtain ⟨i0, hi, hz0, hz1, hz2⟩ := info_parts info37
  go_enter Tryz.func32, Tryz.ntmps32
  go_wp2_with fail
  go_loopw [7, 8] (fun v t wr => ∃ (j : Nat) (ti : Int) (ds : List (Option Addr × Nat)), t = .int .i64 ti ∧ GotJ es K w i most j ti ds v wr) (fun _ t _ => (es.length + 1 - intOf t).toNat)
  case atStart => exact ⟨0, i, [], rfl, by omega, Or.inl rfl, Or.inl rfl, rfl, by simpa [rowV] using World.ownsRow_nil w w.heap.size 53 6, fun k e d hk => by simp at hk, Below.refl _ _⟩
  case round =>
    obtain ⟨j, ti, ds, rfl, hJ⟩ := hrel
    obtain ⟨A1, c1, rfl⟩ := owns_form hJ.own
    have HJ := Lib.hid hJ
    have hjb : j ≤ 100000 := by
      rcases hJ.le with h | h <;> omega
    have hb := hJ.low
    have hq1 : wr.cell? ⟨q, 0, none⟩ = some (.slice A es.length c) := (hb.cell hq).trans h0
    have hn : es.length ≤ 100000 := hes
    by_cases h1 : 1 ≤ ti
    · by_cases h2 : ti ≤ es.length
      · by_cases h3 : (j : Int) < most
        · obtain ⟨m, rfl⟩ : ∃ m : Nat, ti = m + 1 := ⟨(ti - 1).toNat, by omega⟩
          have hml : m < es.length := by omega
          obtain ⟨a, x, D, d, rfl, ka, hx, ca, ra, la, ma⟩ := (he.keep (K' := K) (fun b hb' => hb.block b (hK b hb').1) (fun _ h => h)).at_ hml
          obtain ⟨a0, a1, a2, a3, a4, a5⟩ := en6 ca
          have e1 : decide (1 ≤ (m : Int) + 1) = true := decide_eq_true (by omega)
          have e2 : decide ((m : Int) + 1 ≤ (es.length : Int)) = true := decide_eq_true (by omega)
          have e3 : decide ((j : Int) < most) = true := decide_eq_true h3
          have HR : Hid (Rd w K D d (u8s x.data)) := Lib.hid (ra.keep (fun b hb' => (hb.block b (hK b hb').1).symm) (fun _ h => h))
          clear ca hJ hb
          go_wp2_with (at_builtin; refine wpList_append_full _ rfl (.tmp 29) (.tmp 38) 22 rfl 53 i0 _ 6 _ Tryz.underlying22 hi hz0 hz1 hz2 rfl w.heap.size (.slice A1 j c1) j (rowV ((fromI es i).take j) ds) rfl (HJ.out.own.alloc _) (by have := HJ.out.low.size; simp; omega) ⟨wr.heap.size, 0, none⟩ 1 1 (enV x D d) rfl rfl (news_new wr (enV x D d) 53) (enV_one _ _ _) (by unfold maxLen; omega) (by omega) (by decide) ?_)
          intro v' w3 g' hown3 hgr3 hv3 hg3
          have hJ3 := HJ.out.step hx.out HR.out la ma (by omega) (by omega) h3 hgr3 hown3
          obtain ⟨A2, c2, rfl⟩ := owns_form hown3
          clear hown3 hgr3 a0 a1 a2 a3 a4 a5 ra HJ hq1
          go_wp2_with fail
          go_roundw
          case rel => exact ⟨j + 1, _, _, rfl, hJ3⟩
          case measure => simp [intOf]; omega
        · have e1 : decide (1 ≤ ti) = true := decide_eq_true h1
          have e2 : decide (ti ≤ (es.length : Int)) = true := decide_eq_true h2
          have e3 : decide ((j : Int) < most) = false := decide_eq_false h3
          clear hJ
          go_wp2_with fail
          go_ret
          obtain ⟨A9, c9, f1, f2, f3⟩ := HJ.out.fin hK (Or.inr (Or.inr (by omega)))
          exact ⟨A9, c9, (show _ = Ending.returned (Value.slice A1 j c1) from rfl).trans f1, f2, f3⟩
      · have e1 : decide (1 ≤ ti) = true := decide_eq_true h1
        have e2 : decide (ti ≤ (es.length : Int)) = false := decide_eq_false h2
        clear hJ
        go_wp2_with fail
        go_ret
        obtain ⟨A9, c9, f1, f2, f3⟩ := HJ.out.fin hK (Or.inr (Or.inl (by omega)))
        exact ⟨A9, c9, (show _ = Ending.returned (Value.slice A1 j c1) from rfl).trans f1, f2, f3⟩
    · have e1 : decide (1 ≤ ti) = false := decide_eq_false h1
      clear hJ
      go_wp2_with fail
      go_ret
      obtain ⟨A9, c9, f1, f2, f3⟩ := HJ.out.fin hK (Or.inl (by omega))
      exact ⟨A9, c9, (show _ = Ending.returned (Value.slice A1 j c1) from rfl).trans f1, f2, f3⟩
end Go.Proofs.YtcbomcbflmgmhaaGreat
