/- The reference's log: Last, Put: over this seat's program. -/
import Derived.Test.YtcbomcbflmgmhaaGreatKRef
import Derived.Deep.RegionLaw
namespace Go.Proofs.YtcbomcbflmgmhaaGreat
open Go.RowKit
set_option linter.unusedVariables false
set_option maxRecDepth 100000

theorem RefS.c0 {R : Nat → Prop} {w : World} {q : Nat} {es : List En} (h : RefS R w q es) : ∃ A c K, w.cell? ⟨q, 0, none⟩ = some (.slice A es.length c) ∧ Ents w K A c es ∧ q < w.heap.size ∧ (∀ b, K b → b < w.heap.size ∧ R b) := by
  obtain ⟨h0, v, K, ds, h1, h2, h3, h4⟩ := h
  obtain ⟨A, c, rfl, he⟩ := h2.ents
  refine ⟨A, c, _, by rw [cell_of_row w q 0 _ _ _ h1]; rfl, he, (Array.getElem?_eq_some_iff.1 h1).1, fun b hb => ⟨hb.2, ?_⟩⟩
  rcases hb.1 with h | h
  · exact (h3 b h).1
  · exact (h4 b h).1
theorem refTerm_S (R : Nat → Prop) (w : World) (q : Nat) (es : List En) (i : Int) (h : RefS R w q es) :
    Calls Tryz.prog 18 #[.pointer (some ⟨q, 0, none⟩), .int .i64 i] w fun e w' => e = .returned (.tuple #[.int .i64 (termAt es i), .bool (hasAt es i)]) ∧ Below w.heap.size w w' := by
  obtain ⟨A, c, K, h0, he, hq, hK⟩ := h.c0
  exact refTerm_K w q A c es K i h0 hq he (fun b hb => (hK b hb).1)
theorem refAt_S (R : Nat → Prop) (w : World) (q : Nat) (es : List En) (i : Int) (h : RefS R w q es) :
    Calls Tryz.prog 35 #[.pointer (some ⟨q, 0, none⟩), .int .i64 i] w fun e w' => ∃ K, (∀ b, K b → b < w.heap.size ∧ R b) ∧ GaveK es K w i e w' := by
  obtain ⟨A, c, K, h0, he, hq, hK⟩ := h.c0
  exact (refAt_K w q A c es K i h0 hq he (fun b hb => (hK b hb).1)).mono fun e w' h => ⟨K, hK, h⟩
theorem refLast_S (R : Nat → Prop) (w : World) (q : Nat) (es : List En) (h : RefS R w q es) (hn : es.length ≤ 1000000) :
    Calls Tryz.prog 14 #[.pointer (some ⟨q, 0, none⟩)] w fun e w' => e = .returned (.tuple #[.int .i64 es.length, .int .i64 (termAt es es.length)]) ∧ Below w.heap.size w w' := by
  obtain ⟨A, c, K, h0, he, hq, hK⟩ := h.c0
  go_enter Tryz.func14, Tryz.ntmps14
  go_wp2_with fail
  refine (refTerm_K w q A c es K es.length h0 hq he (fun b hb => (hK b hb).1)).mono ?_
  rintro _ w1 ⟨rfl, hb⟩
  have h1 : w1.cell? ⟨q, 0, none⟩ = some (.slice A es.length c) := (hb.cell hq).trans h0
  clear h0
  go_wp2_with fail
  go_ret2
  exact ⟨rfl, hb⟩
theorem RowK.step1 {wr w2 wz w3 : World} {N : Nat} {v v' : Value} {K : Nat → Prop} {es : List En} {ds : List (Option Addr × Nat)} {x : En} {A' : Option Addr} {c' : Nat}
    (h : RowK wr N v K es ds) (hN : N ≤ wr.heap.size) (hb : Below wr.heap.size wr w2) (hr : Dat w2 (fun b => wr.heap.size ≤ b) A' c' x.data) (hz : Below w2.heap.size w2 wz) (hgr : wz.grownBy w3 v.ownBlock)
    (hown : w3.ownsRow N 53 6 v' (es.length + 1) (rowV es ds ++ enV x A' c')) (hv : ∀ g, v'.ownBlock = some g → v.ownBlock = some g ∨ w2.heap.size ≤ g) :
    RowK w3 N v' (fun b => K b ∨ (wr.heap.size ≤ b ∧ b < w2.heap.size)) (es ++ [x]) (ds ++ [(A', c')]) := by
  have hs := hgr.size
  have hs2 := hb.size
  have hsz := hz.size
  have hob := owns_block h.own
  have old : ∀ b, b < w2.heap.size → v.ownBlock ≠ some b → w3.heap[b]? = w2.heap[b]? := fun b h1 h2 => (hgr.block b (by omega) (fun e => h2 e.symm)).trans (hz.block b h1)
  refine ⟨by rw [List.length_append, rowV_snoc _ _ _ _ h.len]; exact hown, by simp [h.len], fun i e d hi hd => ?_, ?_⟩
  · have hlen := h.len
    rcases Nat.lt_or_ge i es.length with h' | h'
    · rw [List.getElem?_append_left h'] at hi
      rw [List.getElem?_append_left (by omega)] at hd
      refine (h.data i e d hi hd).keep (fun b hk _ => ?_) (by omega) (fun b hk _ => .inl hk)
      obtain ⟨_, k2, k3⟩ := h.kk b hk
      exact (old b (by omega) k3).trans (hb.block b k2)
    · have hi0 : i = es.length := by have := (List.getElem?_eq_some_iff.1 hi).1; simp at this; omega
      subst hi0
      simp at hi
      rw [← hlen] at hd
      simp at hd
      subst hi hd
      exact hr.keep (fun b hk hl => old b hl (fun e => by have := (hob b e).2; omega)) (by omega) (fun b hk hl => .inr ⟨hk, hl⟩)
  · rintro b (hk | hk)
    · obtain ⟨k1, k2, k3⟩ := h.kk b hk
      refine ⟨k1, by omega, fun e => ?_⟩
      rcases hv b e with e' | e'
      · exact k3 e'
      · omega
    · refine ⟨by omega, by omega, fun e => ?_⟩
      rcases hv b e with e' | e'
      · have := (hob b e').2; omega
      · omega
/-- One entry more in the reference's log. -/
theorem RefS.step {R : Nat → Prop} {w wr w2 wz w3 : World} {q : Nat} {v v' : Value} {K : Nat → Prop} {es : List En} {ds : List (Option Addr × Nat)} {x : En} {A' : Option Addr} {c' g' : Nat}
    (r0 : R q) (r1 : wr.heap[q]? = some (.cells #[v] 40 (0, 0))) (r2 : RowK wr 0 v K es ds) (r3 : ∀ g, v.ownBlock = some g → R g ∧ g ≠ q) (r4 : ∀ b, K b → R b ∧ b ≠ q) (hbw : Ag (fun k => ¬ R k) w wr)
    (hb : Below wr.heap.size wr w2) (hr : Dat w2 (fun b => wr.heap.size ≤ b) A' c' x.data) (hz : Below w2.heap.size w2 wz) (hgr : wz.grownBy w3 v.ownBlock)
    (hown : w3.ownsRow 0 53 6 v' (es.length + 1) (rowV es ds ++ enV x A' c')) (hv : v'.ownBlock = some g') (hg : g' = wz.heap.size ∨ v.ownBlock = some g') :
    RefS (fun b => R b ∨ Fresh w (w3.setCell ⟨q, 0, none⟩ v') b) (w3.setCell ⟨q, 0, none⟩ v') q (es ++ [x]) ∧ Ag (fun k => ¬ R k) w (w3.setCell ⟨q, 0, none⟩ v') := by
  have hs := hgr.size
  have hs2 := hb.size
  have hsz := hz.size
  have hsw := hbw.size
  have hq := (Array.getElem?_eq_some_iff.1 r1).1
  have hsc : (w3.setCell ⟨q, 0, none⟩ v').heap.size = w3.heap.size := by simp [World.setCell]
  have hgq : g' ≠ q := by
    rcases hg with e | e
    · omega
    · exact (r3 g' e).2
  have hst := r2.step1 (x := x) (Nat.zero_le _) hb hr hz hgr hown (fun g e => by
    rw [hv] at e
    injection e with e
    subst e
    rcases hg with h | h
    · right; omega
    · exact .inl h)
  have h3 : w3.heap[q]? = some (.cells #[v] 40 (0, 0)) := by
    rw [hgr.block q (by omega) (fun e => (r3 q e.symm).2 rfl), hz.block q (by omega), hb.block q hq]
    exact r1
  refine ⟨⟨.inl r0, v', _, _, ?_, ⟨owns_keep hst.own (fun g e => Below.heap_setCell _ _ _ _ (fun e' => ?_)), hst.len, fun i e d hi hd => (hst.data i e d hi hd).keep (fun b hb' hl => Below.heap_setCell _ _ _ _ ?_) (by omega) (fun _ h _ => h), fun b hb' => let ⟨k1, k2, k3⟩ := hst.kk b hb'; ⟨k1, by omega, k3⟩⟩, fun g e => ?_, fun b hb' => ?_⟩, ?_⟩
  · rw [heap_setCell_same _ _ _ _ _ _ h3]; simp
  · rw [hv] at e
    injection e with e
    exact hgq (e.trans e')
  · show b ≠ q
    rcases hb' with h | h
    · exact (r4 b h).2
    · omega
  · rw [hv] at e
    injection e with e
    subst e
    refine ⟨?_, hgq⟩
    rcases hg with h | h
    · right
      have := (owns_block hown g' hv).2
      exact ⟨by omega, by omega⟩
    · exact .inl (r3 g' h).1
  · rcases hb' with h | h
    · exact ⟨.inl (r4 b h).1, (r4 b h).2⟩
    · exact ⟨.inr ⟨by omega, by omega⟩, by omega⟩
  · exact (((hbw.trans (Ag.of_below _ hb)).trans (Ag.of_below _ hz)).grown hgr (fun r hr' hlt => fun h => h (r3 r hr').1)).setCell (fun _ h => h r0) _
set_option maxHeartbeats 1000000 in
theorem refPut_S (R K : Nat → Prop) (w : World) (q : Nat) (es : List En) (e : En) (A : Option Addr) (c : Nat) (h : RefS R w q es) (hR : ∀ b, R b → b < w.heap.size) (ha : Rd w K A c (u8s e.data)) (hK : ∀ b, K b → b < w.heap.size) (hs : es.length + 1 ≤ 100000) (hd : e.data.length ≤ 1000000) :
    Calls Tryz.prog 31 #[.pointer (some ⟨q, 0, none⟩), enA e A c] w fun x w' => x = .returned (.int .i64 (es.length + 1)) ∧ RefS (fun b => R b ∨ Fresh w w' b) w' q (es ++ [e]) ∧ Ag (fun k => ¬ R k) w w' := by
  obtain ⟨i0, hi, hz0, hz1, hz2⟩ := info_parts info37
  have hbA : Below w.heap.size w (w.alloc (.cells #[.int .i64 e.term, .int .u8 e.kind, .int .i64 e.ver, .int .i64 e.srv, .bool e.good, .slice A e.data.length c] 53)) := (Below.refl _ _).alloc (Nat.le_refl _) _
  have hA := h.below hbA
  go_enter Tryz.func31, Tryz.ntmps31
  unfold enA enV
  go_wp2_with fail
  obtain ⟨c0, c1, c2, c3, c4, c5⟩ := cells6 (heap_alloc_new w (Obj.cells #[.int .i64 e.term, .int .u8 e.kind, .int .i64 e.ver, .int .i64 e.srv, .bool e.good, .slice A e.data.length c] 53))
  have hsz : (w.alloc (.cells #[.int .i64 e.term, .int .u8 e.kind, .int .i64 e.ver, .int .i64 e.srv, .bool e.good, .slice A e.data.length c] 53)).heap.size = w.heap.size + 1 := by simp
  generalize (w.alloc (.cells #[.int .i64 e.term, .int .u8 e.kind, .int .i64 e.ver, .int .i64 e.srv, .bool e.good, .slice A e.data.length c] 53)) = wa at *
  have HZ := Lib.hid hsz
  clear hsz
  have hra : Rd wa K A c (u8s e.data) := ha.keep (fun b hb => hbA.block b (hK b hb)) (fun _ h => h)
  obtain ⟨r0, v, KL, ds, r1, r2, r3, r4⟩ := hA
  obtain ⟨A0, cap0, rfl⟩ := owns_form r2.own
  have q0 : wa.cell? ⟨q, 0, none⟩ = some (.slice A0 es.length cap0) := by rw [cell_of_row wa q 0 _ _ _ r1]; rfl
  have hcon := CopyEntry_any K e A c wa.drew hra (fun b hb => by have := hK b hb; have := HZ.out; show b < wa.heap.size; omega) hd
  simp only [enA, enV] at hcon
  have hfx := frozen_blk r1 0
  have hqa : q < wa.heap.size := (Array.getElem?_eq_some_iff.1 r1).1
  have rowK : ∀ W : World, (∀ g, (Value.slice A0 es.length cap0).ownBlock = some g → W.heap[g]? = wa.heap[g]?) → W.ownsRow 0 53 6 (.slice A0 es.length cap0) es.length (rowV es ds) := fun W hW => owns_keep r2.own hW
  clear hra ha
  go_region_law (first
    | (refine step_append_full _ (by rfl) (.tmp 9) (.tmp 12) 22 (by rfl) 53 i0 _ 6 _ Tryz.underlying22 hi hz0 hz1 hz2 rfl 0 (.slice A0 es.length cap0) es.length (rowV es ds) (by rfl) (rowK _ ?_) (Nat.zero_le _) ⟨w2.heap.size, 0, none⟩ 1 1 (enV e A' c') (by rfl) (by rfl) ?_ ?_ ?_ ?_ (by decide) ?_
       · intro g hg
         have h3 := (owns_block r2.own g hg).2
         exact (heap_alloc_old w2 _ (Nat.lt_of_lt_of_le h3 hbo.size)).trans (hbo.block g h3)
       · exact news_new w2 (enV e A' c') 53
       · exact enV_one e A' c'
       · unfold maxLen; omega
       · omega
       intro v2 w3 g2 hrow2 hgr hv2 hg2
       have ob3 : w3.heap[q]? = some (.cells #[.slice A0 es.length cap0] 40 (0, 0)) := (hgr.block q (by have := hbo.size; simp; exact Nat.lt_succ_of_lt (Nat.lt_of_lt_of_le hqa this)) (fun h => (r3 q h.symm).2 rfl)).trans ((heap_alloc_old w2 _ (Nat.lt_of_lt_of_le hqa hbo.size)).trans ob2)
       have oc3 : w3.cell? ⟨q, 0, none⟩ = some (.slice A0 es.length cap0) := by rw [cell_of_row w3 q 0 _ _ _ ob3]; rfl
       have of3 := frozen_blk ob3 0
       obtain ⟨A2, cap2, rfl⟩ := owns_form hrow2)
    | (go_simp; go_at_call 46; refine hcon.mono ?_; rintro _ w2 ⟨A', c', rfl, hr2, hbo⟩
       have ob2 : w2.heap[q]? = some (.cells #[.slice A0 es.length cap0] 40 (0, 0)) := (hbo.block q hqa).trans r1
       have oc2 : w2.cell? ⟨q, 0, none⟩ = some (.slice A0 es.length cap0) := by rw [cell_of_row w2 q 0 _ _ _ ob2]; rfl
       have oc2' : ∀ o, (w2.alloc o).cell? ⟨q, 0, none⟩ = some (.slice A0 es.length cap0) := fun o => (World.cell?_of_block (heap_alloc_old w2 o (Array.getElem?_eq_some_iff.1 ob2).1)).trans oc2))
  all_goals
    obtain ⟨s1, s2⟩ := RefS.step r0 r1 r2 r3 r4 (Ag.of_below (fun k => ¬ R k) hbA) (((Below.refl _ _).drew).trans hbo) (hr2.keep (fun _ _ _ => rfl) (Nat.le_refl _) (fun b hb _ => hb)) ((Below.refl _ _).alloc (Nat.le_refl _) _) hgr hrow2 hv2 (by simpa using hg2)
    clear hrow2 hgr hg2 hbo rowK hcon r1 r2 r3 r4 ob2 ob3 oc2 oc2' hfx c0 c1 c2 c3 c4 c5 q0 hbA hr2
    go_wp2_with fail
    go_ret
    exact ⟨by simp, s1, s2⟩
end Go.Proofs.YtcbomcbflmgmhaaGreat
