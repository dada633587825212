/- From, whose answer lies apart: over this seat's program. -/
import Derived.Test.YthfofnfkopnbhaaFromB
import Derived.Test.YthfofnfkopnbhaaZ4
namespace Go.Proofs.Ythfofnfkopnbhaa
open Go.RowKit Go.Shelf
set_option linter.unusedVariables false
set_option maxRecDepth 100000
attribute [local go_sem] Oper.semAt_some

/-- What has been gathered: the box bo holds a row of entries in memory of its own, from block N on. -/
structure OutK (w4 : World) (N bo : Nat) (ens : List En) (v : Value) (g : Nat) (D : Nat → Prop) (ds : List (Option Addr × Nat)) (W : World) : Prop where
  box : W.heap[bo]? = some (.cells #[v] 34 (0, 0))
  row : Row W 44 6 v g ens.length (rowV ens ds)
  len : ds.length = ens.length
  gb : v.ownBlock = some g → N ≤ g ∧ g < W.heap.size
  data : ∀ (i : Nat) (e : En) (d : Option Addr × Nat), ens[i]? = some e → ds[i]? = some d → Dat W D d.1 d.2 e.data
  dis : ∀ (i j : Nat) (d d' : Option Addr × Nat) (a a' : Addr), ds[i]? = some d → ds[j]? = some d' → d.1 = some a → d'.1 = some a' → i ≠ j → a.block ≠ a'.block
  dmem : ∀ (i : Nat) (d : Option Addr × Nat) (a : Addr), ds[i]? = some d → d.1 = some a → D a.block
  dcell : ∀ b, D b → N ≤ b ∧ v.ownBlock ≠ some b ∧ ∃ cs t f, W.heap[b]? = some (.cells cs t f)
  low : Below bo w4 W
def OwnBK (bo : Nat) (v : Value) (D : Nat → Prop) (k : Nat) : Prop := k = bo ∨ v.ownBlock = some k ∨ D k
theorem OutK.keep {w4 W W' : World} {N bo g : Nat} {ens : List En} {v : Value} {D : Nat → Prop} {ds : List (Option Addr × Nat)} (h : OutK w4 N bo ens v g D ds W) (hbo : bo ≤ w4.heap.size) (ha : Ag (fun k => OwnBK bo v D k ∨ k < bo) W W') : OutK w4 N bo ens v g D ds W' := by
  have z0 := (Array.getElem?_eq_some_iff.1 h.box).1
  have hD : ∀ b, D b → W'.heap[b]? = W.heap[b]? := fun b hb => by
    obtain ⟨_, _, cs, t, f, hc⟩ := h.dcell b hb
    exact ha.block b (Array.getElem?_eq_some_iff.1 hc).1 (.inl (.inr (.inr hb)))
  refine ⟨(ha.block bo z0 (.inl (.inl rfl))).trans h.box, h.row.keep (fun e => ha.block g (h.gb e).2 (.inl (.inr (.inl e)))), h.len, fun e => ⟨(h.gb e).1, Nat.lt_of_lt_of_le (h.gb e).2 ha.size⟩, fun i e d hi hd => (h.data i e d hi hd).keep (fun b hb _ => hD b hb) ha.size (fun _ h _ => h), h.dis, h.dmem, fun b hb => ?_, ?_⟩
  · obtain ⟨h1, h2, cs, t, f, hc⟩ := h.dcell b hb
    exact ⟨h1, h2, cs, t, f, (hD b hb).trans hc⟩
  · have hz := h.low.size
    exact h.low.trans (ha.below (by omega) (fun k hk => .inr hk))
theorem OutK.ownb {w4 W : World} {N bo g : Nat} {ens : List En} {v : Value} {D : Nat → Prop} {ds : List (Option Addr × Nat)} (h : OutK w4 N bo ens v g D ds W) (hbo : bo < N) {b : Nat} (ho : OwnBK bo v D b) :
    (b = bo ∨ N ≤ b) ∧ ∃ cs t f, W.heap[b]? = some (.cells cs t f) := by
  rcases ho with rfl | ho | ho
  · exact ⟨.inl rfl, _, _, _, h.box⟩
  · rcases h.row.2 with ⟨e, _⟩ | ⟨cap, cur, e, hg, _⟩
    · rw [e] at ho; cases ho
    · rw [e] at ho
      injection ho with ho
      subst ho
      exact ⟨.inr (h.gb (by rw [e]; rfl)).1, _, _, _, hg⟩
  · obtain ⟨h1, _, h2⟩ := h.dcell b ho
    exact ⟨.inr h1, h2⟩
/-- A list of entries in memory of its own, from block N on, all of it apart. -/
structure Lst (w : World) (N : Nat) (v : Value) (g : Nat) (ens : List En) (ds : List (Option Addr × Nat)) : Prop where
  row : Row w 44 6 v g ens.length (rowV ens ds)
  len : ds.length = ens.length
  gb : v.ownBlock = some g → N ≤ g ∧ g < w.heap.size
  data : ∀ (i : Nat) (e : En) (d : Option Addr × Nat), ens[i]? = some e → ds[i]? = some d → Dat w (fun b => N ≤ b ∧ v.ownBlock ≠ some b) d.1 d.2 e.data
  dis : ∀ (i j : Nat) (d d' : Option Addr × Nat) (a a' : Addr), ds[i]? = some d → ds[j]? = some d' → d.1 = some a → d'.1 = some a' → i ≠ j → a.block ≠ a'.block
theorem Lst.below {w w' : World} {N : Nat} {v : Value} {g : Nat} {ens : List En} {ds : List (Option Addr × Nat)} (h : Lst w N v g ens ds) (hb : Below w.heap.size w w') : Lst w' N v g ens ds :=
  ⟨h.row.keep (fun e => hb.block g (h.gb e).2), h.len, fun e => ⟨(h.gb e).1, Nat.lt_of_lt_of_le (h.gb e).2 hb.size⟩, fun i e d hi hd => (h.data i e d hi hd).keep (fun b _ hl => hb.block b hl) hb.size (fun _ h _ => h), h.dis⟩
/-- It reads as entries. -/
theorem Lst.ents {w : World} {N : Nat} {v : Value} {g : Nat} {ens : List En} {ds : List (Option Addr × Nat)} (h : Lst w N v g ens ds) : ∃ A c, v = .slice A ens.length c ∧ Ents w (fun b => N ≤ b ∧ b < w.heap.size) A c ens := by
  rcases h.row.2 with ⟨h1, h2⟩ | ⟨cap, cur, h1, hg, h2, h3, h4, h5⟩
  · have : ens = [] := List.eq_nil_of_length_eq_zero h2
    subst this
    exact ⟨none, 0, h1, fun _ => rfl, Nat.le_refl _, by decide, fun h => absurd rfl h⟩
  · refine ⟨some ⟨g, 0, none⟩, cap, h1, fun e => (by cases e), h2, h3, fun _ => ⟨_, rfl, fun i e hi => ?_⟩⟩
    have hil := (List.getElem?_eq_some_iff.1 hi).1
    have hd : i < ds.length := by rw [h.len]; exact hil
    have hdat := h.data i e ds[i] hi (List.getElem?_eq_getElem hd)
    obtain ⟨r1, r2, r3⟩ := (hdat.keep (K' := fun b => N ≤ b ∧ b < w.heap.size) (fun _ _ _ => rfl) (Nat.le_refl _) (fun b hb hl => ⟨hb.1, hl⟩)).rd
    have hcell := h.row.cells (by rw [h1]; simp [Value.ownBlock])
    refine ⟨ds[i].1, ds[i].2, ?_, fun j hj => ?_, r1, r2, r3⟩
    · rw [add_blk]
      exact h.gb (by rw [h1]; rfl)
    · have hv := rowV_get ens ds i e ds[i] hi (List.getElem?_eq_getElem hd) j hj
      have hj' : j < (enV e ds[i].1 ds[i].2).length := by simpa [enV] using hj
      rw [add_add _ _ _ rfl, List.getElem?_eq_getElem hj']
      exact hcell _ _ (by rw [hv, List.getElem?_eq_getElem hj'])
/-- What From tells: entries in memory of their own. -/
def FromPK (w : World) (ens : List En) (x : Ending) (w' : World) : Prop := ∃ v g ds, x = .returned v ∧ Lst w' w.heap.size v g ens ds ∧ Below w.heap.size w w'
theorem OutK.fin {w w4 W : World} {bo g D0 : Nat} {ens : List En} {v : Value} {D : Nat → Prop} {ds : List (Option Addr × Nat)} (h : OutK w4 w4.heap.size bo ens v g D ds W) (hbo : bo < w4.heap.size) (hw : w.heap.size ≤ bo) (hB4 : Below w.heap.size w w4) (hD : w4.heap.size ≤ D0) (hK : W.heap[D0]? = some (.deferred (some []))) :
    FromPK w ens (.returned v) (W.putObj D0 (.deferred none)) := by
  have hg := grownBy_putObj' W D0 (.deferred none)
  have hlow := h.low
  have hkc : ∀ b, (∃ cs t f, W.heap[b]? = some (Obj.cells cs t f)) → (W.putObj D0 (.deferred none)).heap[b]? = W.heap[b]? := fun b ⟨cs, t, f, hc⟩ =>
    hg.block b (Array.getElem?_eq_some_iff.1 hc).1 (fun e => by injection e with e; subst e; rw [hK] at hc; cases hc)
  refine ⟨v, g, ds, rfl, ⟨h.row.keep (fun e => hkc g (h.ownb hbo (.inr (.inl e))).2), h.len, fun e => ⟨by have := (h.gb e).1; omega, Nat.lt_of_lt_of_le (h.gb e).2 hg.size⟩, fun i e d hi hd => ?_, h.dis⟩, ?_⟩
  · refine (h.data i e d hi hd).keep (fun b hb _ => hkc b (h.dcell b hb).2.2) hg.size (fun b hb _ => ?_)
    obtain ⟨q1, q2, _⟩ := h.dcell b hb
    exact ⟨by omega, q2⟩
  · exact (hB4.trans (hlow.mono hw)).grown hg (by have := hB4.size; have := hlow.size; omega) (fun k e => by injection e with e; omega)
theorem OutK.step {w4 W w2 w3 : World} {N bo g g2 n2 cap2 : Nat} {ens : List En} {v : Value} {D : Nat → Prop} {ds : List (Option Addr × Nat)} {x : En} {A' : Option Addr} {c' : Nat} {o : Obj}
    (h : OutK w4 N bo ens v g D ds W) (hbo : bo < N) (hN : N ≤ W.heap.size) (hb : Below W.heap.size W w2) (hr : Dat w2 (fun b => W.heap.size ≤ b) A' c' x.data)
    (hgr : (w2.alloc o).grownBy w3 v.ownBlock) (hg2 : g2 = (w2.alloc o).heap.size ∨ g2 = g ∧ v.ownBlock = some g) (hlt : g2 < w3.heap.size)
    (hrow : Row w3 44 6 (.slice (some ⟨g2, 0, none⟩) n2 cap2) g2 (ens.length + 1) (rowV ens ds ++ enV x A' c')) :
    OutK w4 N bo (ens ++ [x]) (.slice (some ⟨g2, 0, none⟩) n2 cap2) g2 (fun b => D b ∨ (∃ a, A' = some a ∧ a.block = b)) (ds ++ [(A', c')]) (w3.setCell ⟨bo, 0, none⟩ (.slice (some ⟨g2, 0, none⟩) n2 cap2)) ∧
      Ag (fun k => ¬ OwnBK bo v D k) W (w3.setCell ⟨bo, 0, none⟩ (.slice (some ⟨g2, 0, none⟩) n2 cap2)) := by
  have hs2 := hb.size
  have hsa : (w2.alloc o).heap.size = w2.heap.size + 1 := by simp
  have hs3 := hgr.size
  have hsz : (w3.setCell ⟨bo, 0, none⟩ (.slice (some ⟨g2, 0, none⟩) n2 cap2)).heap.size = w3.heap.size := by simp [World.setCell]
  have hvb : ∀ k, v.ownBlock = some k → k = g := by
    intro k e
    rcases h.row.ownB with e' | e'
    · rw [e'] at e; cases e
    · rw [e'] at e; injection e with e; exact e.symm
  have hgN : N ≤ g2 := by
    rcases hg2 with e | ⟨e, e'⟩
    · rw [e, hsa]; omega
    · rw [e]; exact (h.gb e').1
  have hgbo : g2 ≠ bo := by omega
  have old : ∀ b, b < w2.heap.size → b ≠ bo → v.ownBlock ≠ some b → (w3.setCell ⟨bo, 0, none⟩ (.slice (some ⟨g2, 0, none⟩) n2 cap2)).heap[b]? = w2.heap[b]? := by
    intro b h1 h2 h3
    rw [Below.heap_setCell _ _ _ _ h2, hgr.block b (by omega) (fun e => h3 e.symm), heap_alloc_old w2 _ h1]
  have hbox3 : w3.heap[bo]? = some (.cells #[v] 34 (0, 0)) := by
    rw [hgr.block bo (by omega) (fun e => by have := hvb _ e.symm; have := (h.gb (by rw [← this]; exact e.symm)).1; omega), heap_alloc_old w2 _ (by omega), hb.block bo (by omega)]
    exact h.box
  have hDlt : ∀ b, D b → b < W.heap.size := fun b hb' => by
    obtain ⟨_, _, cs, t, f, hc⟩ := h.dcell b hb'
    exact (Array.getElem?_eq_some_iff.1 hc).1
  have hDk : ∀ b, D b → (w3.setCell ⟨bo, 0, none⟩ (.slice (some ⟨g2, 0, none⟩) n2 cap2)).heap[b]? = W.heap[b]? := fun b hb' => by
    obtain ⟨h1, h2, _⟩ := h.dcell b hb'
    have := hDlt b hb'
    rw [old b (by omega) (by omega) h2, hb.block b this]
  have hnew : ∀ b, W.heap.size ≤ b → b < w2.heap.size → v.ownBlock ≠ some b ∧ b ≠ g2 := by
    intro b h1 h2
    refine ⟨fun e => ?_, fun e => ?_⟩
    · have e1 := hvb _ e
      have := (h.gb (by rw [← e1]; exact e)).2
      omega
    · rcases hg2 with e' | ⟨e', e''⟩
      · rw [hsa] at e'; omega
      · have := (h.gb e'').2; omega
  refine ⟨⟨?_, ?_, by simp [h.len], fun _ => ⟨hgN, by rw [hsz]; exact hlt⟩, ?_, ?_, ?_, ?_, ?_⟩, ⟨?_, ?_, ?_, by rw [hsz]; omega, fun k h1 h2 => ?_⟩⟩
  · rw [heap_setCell_same _ _ _ _ _ _ hbox3]; rfl
  · rw [rowV_snoc _ _ _ _ h.len, List.length_append]
    exact hrow.keep (fun _ => Below.heap_setCell _ _ _ _ hgbo)
  · intro i e d hi hd
    have hlen := h.len
    rcases Nat.lt_or_ge i ens.length with h' | h'
    · rw [List.getElem?_append_left h'] at hi
      rw [List.getElem?_append_left (by omega)] at hd
      exact (h.data i e d hi hd).keep (fun b hb' _ => hDk b hb') (by rw [hsz]; omega) (fun b hb' _ => .inl hb')
    · have hi0 : i = ens.length := by
        have := (List.getElem?_eq_some_iff.1 hi).1
        simp at this
        omega
      subst hi0
      simp at hi
      rw [← hlen] at hd
      simp at hd
      subst hi
      subst hd
      obtain ⟨bq, hq1, hq2⟩ := hr
      refine ⟨bq, hq1.keep (fun e => ?_), fun e => ?_⟩
      · obtain ⟨k1, k2⟩ := hq2 e
        exact old bq k2 (by omega) (hnew bq k1 k2).1
      · obtain ⟨k1, k2⟩ := hq2 e
        refine ⟨.inr ?_, by rw [hsz]; omega⟩
        cases hA : A' with
        | none => rw [hA] at e; cases e
        | some a => rw [hA] at e; injection e with e; exact ⟨a, rfl, e⟩
  · intro i j d d' a a' hi hj ha ha' hij
    have hlen := h.len
    have hnb : ∀ a, A' = some a → W.heap.size ≤ a.block := fun a ha => by
      rcases hr.form with ⟨e, _⟩ | ⟨b, cur, e, hk, _⟩
      · rw [e] at ha; cases ha
      · rw [e] at ha; injection ha with ha; rw [← ha]; exact hk
    rcases Nat.lt_or_ge i ds.length with h1 | h1
    · rw [List.getElem?_append_left h1] at hi
      rcases Nat.lt_or_ge j ds.length with h2 | h2
      · rw [List.getElem?_append_left h2] at hj
        exact h.dis i j d d' a a' hi hj ha ha' hij
      · have hj0 : j = ds.length := by have := (List.getElem?_eq_some_iff.1 hj).1; simp at this; omega
        subst hj0
        simp at hj
        subst hj
        have := hnb a' ha'
        have := hDlt _ (h.dmem i d a hi ha)
        omega
    · have hi0 : i = ds.length := by have := (List.getElem?_eq_some_iff.1 hi).1; simp at this; omega
      subst hi0
      simp at hi
      subst hi
      rcases Nat.lt_or_ge j ds.length with h2 | h2
      · rw [List.getElem?_append_left h2] at hj
        have := hnb a ha
        have := hDlt _ (h.dmem j d' a' hj ha')
        omega
      · have hj0 : j = ds.length := by have := (List.getElem?_eq_some_iff.1 hj).1; simp at this; omega
        exact absurd hj0.symm hij
  · intro i d a hi ha
    rcases Nat.lt_or_ge i ds.length with h1 | h1
    · rw [List.getElem?_append_left h1] at hi
      exact .inl (h.dmem i d a hi ha)
    · have hi0 : i = ds.length := by have := (List.getElem?_eq_some_iff.1 hi).1; simp at this; omega
      subst hi0
      simp at hi
      subst hi
      exact .inr ⟨a, ha, rfl⟩
  · rintro b (hb' | ⟨a, e, rfl⟩)
    · obtain ⟨h1, h2, cs, t, f, hc⟩ := h.dcell b hb'
      refine ⟨h1, fun e => ?_, cs, t, f, (hDk b hb').trans hc⟩
      simp [Value.ownBlock] at e
      rcases hg2 with e' | ⟨e', e''⟩
      · have := hDlt b hb'; rw [hsa] at e'; omega
      · exact h2 (by rw [e'', ← e', e])
    · rcases hr.form with ⟨e1, _⟩ | ⟨b, cur, e1, k1, k2, hg, _⟩
      · rw [e1] at e; cases e
      · rw [e1] at e
        injection e with e
        subst e
        refine ⟨by show N ≤ b; omega, fun e => ?_, cur, 5, (0, 0), ?_⟩
        · simp [Value.ownBlock] at e
          exact (hnew b k1 k2).2 e.symm
        · show (w3.setCell ⟨bo, 0, none⟩ (.slice (some ⟨g2, 0, none⟩) n2 cap2)).heap[b]? = _
          rw [old b k2 (by omega) (hnew b k1 k2).1]
          exact hg
  · have hz := h.low.size
    have h1 : Below bo W w3 := (((hb.mono (by omega)).alloc (by omega) o).grown hgr (by rw [hsa]; omega) (fun k e => by
      have e1 := hvb _ e
      have := (h.gb (by rw [← e1]; exact e)).1
      omega))
    exact (h.low.trans h1).setCell (Nat.le_refl _) _
  · exact hgr.os.trans hb.os
  · exact hgr.tape.trans hb.tape
  · exact hgr.output.trans hb.output
  · have h2' : k ≠ bo ∧ v.ownBlock ≠ some k := ⟨fun e => h2 (.inl e), fun e => h2 (.inr (.inl e))⟩
    rw [old k (by omega) h2'.1 h2'.2, hb.block k h1]
theorem heap_newK' {w : World} {o : Obj} {k : Nat} (hk : k = w.heap.size) : (w.alloc o).heap[k]? = some o := by subst hk; exact World.alloc_heap_new w o
theorem allocK4 (w : World) (o0 o1 o2 o3 : Obj) : ((((w.alloc o0).alloc o1).alloc o2).alloc o3).heap[w.heap.size]? = some o0 ∧ ((((w.alloc o0).alloc o1).alloc o2).alloc o3).heap[w.heap.size + 1]? = some o1 ∧
    ((((w.alloc o0).alloc o1).alloc o2).alloc o3).heap[w.heap.size + 1 + 1]? = some o2 ∧ ((((w.alloc o0).alloc o1).alloc o2).alloc o3).heap[w.heap.size + 1 + 1 + 1]? = some o3 :=
  ⟨(heap_alloc_old _ _ (by simp <;> omega)).trans ((heap_alloc_old _ _ (by simp <;> omega)).trans ((heap_alloc_old _ _ (by simp)).trans (heap_newK' rfl))),
    (heap_alloc_old _ _ (by simp <;> omega)).trans ((heap_alloc_old _ _ (by simp)).trans (heap_newK' (by simp))), (heap_alloc_old _ _ (by simp)).trans (heap_newK' (by simp)), heap_newK' (by simp)⟩
set_option maxRecDepth 100000 in
set_option maxHeartbeats 2000000 in
theorem FromK_any (B : Nat) (w : World) (p : Nat) (es : List En) (i most : Int) (h : Has B w p es) (hes : es.length ≤ 100000) (hd : ∀ e ∈ es, e.data.length ≤ 100000000) (hm : 1 ≤ most) :
    Calls Try.prog 40 #[.pointer (some ⟨p, 0, none⟩), .int .i64 i, .int .i64 most] w (FromPK w ((fromI es i).take most.toNat)) := by
  obtain ⟨g, v, ds, hL, _⟩ := h
  refine (callsIn_wide (n := 3)).1 ?_
  refine callsIn_of_wp_marks Try.func40 rfl trivial ?_ rfl
  simp only [Try.ntmps40, List.size_toArray, List.length_cons, List.length_nil, Nat.reduceAdd, Nat.reduceSub, Array.replicate_succ, Array.replicate_zero, List.push_toArray, List.append_toArray, List.nil_append, List.cons_append]
  have hp := hL.plt
  have hc1 : ∀ o o', ((w.alloc o).alloc o').cell? ⟨p, 1, none⟩ = some (.bool true) := fun o o' => (World.cell?_of_block (keep2 w o o' p hp)).trans hL.c1
  gi_wp2_with (first
    | (refine ⟨trivial, ?_⟩; gi_at_call 42; refine (callsIn_wide.2 (known_true p _ (hc1 _ _))).mono ?_; rintro e w1 ⟨rfl, rfl⟩)
    | (refine ⟨trivial, ?_⟩; gi_at_call 59; refine (onward_in Fence.wide _ trivial rfl _ _ _).mono ?_; rintro e w2 ⟨rfl, rfl⟩))
  obtain ⟨w4, hw4⟩ : ∃ w4, w4 = (((w.alloc (Obj.cells #[Value.int IntKind.i64 most] 3)).alloc (Obj.cells #[Value.slice none 0 0] 34)).alloc (Obj.cells #[Value.pointer (some { block := p, off := 0 })] 101)).alloc (Obj.cells #[Value.int IntKind.i64 i] 3) := ⟨_, rfl⟩
  have hz4 : w4.heap.size = w.heap.size + 4 := by rw [hw4]; simp
  have hB4 : Below w.heap.size w w4 := by rw [hw4]; exact ((((Below.refl _ _).alloc (Nat.le_refl _) _).alloc (by simp) _).alloc (by simp; omega) _).alloc (by simp; omega) _
  obtain ⟨q0, q1, q2, q3⟩ := allocK4 w (Obj.cells #[Value.int IntKind.i64 most] 3) (Obj.cells #[Value.slice none 0 0] 34) (Obj.cells #[Value.pointer (some { block := p, off := 0 })] 101) (Obj.cells #[Value.int IntKind.i64 i] 3)
  rw [← hw4] at q0 q1 q2 q3
  rw [← hw4]
  clear hw4 hc1
  refine wpIn_rangeFunc_C (α := El w p es) (σ := Value × Nat × (Nat → Prop) × List (Option Addr × Nat)) (gf := 73) (lb := #[.pointer (some ⟨w.heap.size + 1 + 1, 0, none⟩), .pointer (some ⟨w.heap.size + 1 + 1 + 1, 0, none⟩)]) rfl (by omega) rfl trivial (enters_of Try.func73 (by kernel_rfl) rfl)
    (encs := encE) (R := fun k => k = w.heap.size + 1 + 1 + 1) (Ks := fun k => k < w.heap.size ∨ k = w.heap.size + 1 + 1 ∨ k = w.heap.size + 1 + 1 + 1) (S := fun xs => xs.map El.e = fromI es i) (Sp := fun pre => ∃ k, pre.map El.e = (fromI es i).take k) (N := es.length) (w0 := w4) ?seq (Below.refl _ _) (fun _ => rfl) (fun k e => by omega) (fun k e => by omega)
    (fun s => OwnBK (w.heap.size + 1) s.1 s.2.2.1) (fun pre s W => OutK w4 w4.heap.size (w.heap.size + 1) (pre.map El.e) s.1 s.2.1 s.2.2.1 s.2.2.2 W ∧ (pre.length : Int) < most) (fun c pre s W => c = .exit 0 ∧ OutK w4 w4.heap.size (w.heap.size + 1) (pre.map El.e) s.1 s.2.1 s.2.2.1 s.2.2.2 W ∧ (pre.length : Int) = most)
    ?keepI ?keepX ?ownI ?ownX (.slice none 0 0, 0, fun _ => False, []) ?start ?round ?done ?stop
  case seq =>
    intro l J Jx W hbW hY h0
    have hbW' : Below w.heap.size w W := hB4.trans (hbW.mono hB4.size)
    exact onward1_in 2 (by omega) l (w.heap.size + 1 + 1) (w.heap.size + 1 + 1 + 1) p g true v es ds i w hL (by omega) (by omega) (by omega) (by omega) J Jx hY W hbW' ((hbW.block _ (by omega)).trans q2) ((hbW.block _ (by omega)).trans q3) h0
  case keepI =>
    rintro pre s W W' ⟨h1, h2⟩ hag
    exact ⟨h1.keep (by omega) (hag.mono (fun k hk h => h.imp id (fun h => ⟨by omega, by omega⟩))), h2⟩
  case keepX =>
    rintro c pre s W W' ⟨h0, h1, h2⟩ hag
    exact ⟨h0, h1.keep (by omega) (hag.mono (fun k hk h => h.imp id (fun h => ⟨by omega, by omega⟩))), h2⟩
  case ownI =>
    rintro pre s W b ⟨h1, _⟩ ho
    obtain ⟨n1, n2⟩ := h1.ownb (by omega) ho
    exact ⟨by omega, by omega, n2⟩
  case ownX =>
    rintro c pre s W b ⟨_, h1, _⟩ ho
    obtain ⟨n1, n2⟩ := h1.ownb (by omega) ho
    exact ⟨by omega, n2⟩
  case start =>
    exact ⟨⟨q1, Row.nil _ _ _ _, rfl, (fun e => by cases e), fun i e d hi => by simp at hi, (fun i j d d' a a' hi => by simp at hi), (fun i d a hi => by simp at hi), (fun _ h => h.elim), Below.refl _ _⟩, by simp; omega⟩
  case round =>
    rintro l pre ⟨v1, g1, D1, ds1⟩ x W hl ⟨r, hr⟩ ⟨hO, hmo⟩ hlen
    simp only [encE, enA, enV]
    gi_wp2
    refine ⟨(Ag.refl _ _).alloc _, ?_⟩
    rintro Wb hgb rb hrb
    have hlt := (Array.getElem?_eq_some_iff.1 hr).1
    have hne : W.heap.size ≠ l := by omega
    have be : Wb.heap[W.heap.size]? = some (.cells #[.int .i64 x.e.term, .int .u8 x.e.kind, .int .i64 x.e.ver, .int .i64 x.e.srv, .bool x.e.good, .slice x.A x.e.data.length x.c] 44 (0, 0)) := (hgb.block _ (by simp) hne).trans (heap_alloc_new W _)
    have hO2 := hO.keep (by omega) ((Ag.refl _ _).alloc (.cells #[.int .i64 x.e.term, .int .u8 x.e.kind, .int .i64 x.e.ver, .int .i64 x.e.srv, .bool x.e.good, .slice x.A x.e.data.length x.c] 44))
    have hO3 : OutK w4 w4.heap.size (w.heap.size + 1) (pre.map El.e) v1 g1 D1 ds1 Wb := hO2.keep (by omega) (hgb.mono (fun k hk h => by
      rcases h with h | h
      · obtain ⟨_, cs, t, f, hc⟩ := hO.ownb (by omega) h
        exact ne_of_cells hc hr rfl
      · omega))
    clear hO hO2
    have hzb : W.heap.size + 1 ≤ Wb.heap.size := by have := hgb.size; simpa using this
    have hzN : w4.heap.size ≤ W.heap.size := by omega
    have oc : Wb.cell? ⟨w.heap.size + 1, 0, none⟩ = some v1 := by rw [cell_of_row _ _ 0 _ _ _ hO3.box]; rfl
    have hlow := hO3.low
    have mb : Wb.heap[w.heap.size]? = some (.cells #[.int .i64 most] 3 (0, 0)) := (hlow.block _ (by omega)).trans q0
    have hBw : Below w.heap.size w Wb := hB4.trans (hlow.mono (by omega))
    obtain ⟨c0, c1, c2, c3, c4, c5⟩ := cells6 be
    have hcon := ownK_any (LogK w p) x.e x.A x.c Wb.drew (x.rd.keep (fun b hb => hBw.block b hb.1) (fun _ h => h)) (fun b hb => Nat.lt_of_lt_of_le hb.1 hBw.size) (hd _ x.mem)
    simp only [enA, enV] at hcon
    obtain ⟨i0, hi, hz, hz1, hz2⟩ := info_parts info37
    have hzw : Wb.drew.heap.size = Wb.heap.size := rfl
    have hpl : (pre.map El.e).length < 100000 := by simp; omega
    gi_wp2_with fail
    refine round_any l _ (by kernel_rfl) (by kernel_rfl) ?hq ?_
    case hq => rintro ⟨_, _, h⟩; exact h
    have rowK : ∀ W' : World, (v1.ownBlock = some g1 → W'.heap[g1]? = Wb.heap[g1]?) → Row W' 44 6 v1 g1 (pre.map El.e).length (rowV (pre.map El.e) ds1) := fun W' hW => hO3.row.keep hW
    refine wpAny_ready (rs := [0, 1]) (by kernel_rfl) (by simp) (AllReady.cons rfl (fun K hK => ?_) (AllReady.cons rfl (fun K hK => ?_) AllReady.nil))
    focus
      go_simp
      refine hK _ _ ?_
      clear hK K
      refine wpAny_ready (rs := [1]) (by kernel_rfl) (by simp) (AllReady.cons rfl (fun K hK => ?_) AllReady.nil)
      go_simp
      refine hK _ _ ?_
      clear hK K
      refine wpAny_ready (rs := [2]) (by kernel_rfl) (by simp) (AllReady.cons rfl (fun K hK => ?_) AllReady.nil)
      go_simp
      refine hcon.mono ?_
      rintro _ w2 ⟨A', c', rfl, hr2, hbo⟩
      have ob2 : w2.heap[w.heap.size + 1]? = some (.cells #[v1] 34 (0, 0)) := (hbo.block _ (Array.getElem?_eq_some_iff.1 hO3.box).1).trans hO3.box
      have oc2 : w2.cell? ⟨w.heap.size + 1, 0, none⟩ = some v1 := by rw [cell_of_row w2 _ 0 _ _ _ ob2]; rfl
      have oc2' : ∀ o, (w2.alloc o).cell? ⟨w.heap.size + 1, 0, none⟩ = some v1 := fun o => (World.cell?_of_block (heap_alloc_old w2 o (Array.getElem?_eq_some_iff.1 ob2).1)).trans oc2
      go_simp
      refine hK _ _ ?_
      clear hK K
      refine wpAny_ready (rs := [3]) (by kernel_rfl) (by simp) (AllReady.cons rfl (fun K hK => ?_) AllReady.nil)
      go_simp
      refine hK _ _ ?_
      clear hK K
    rotate_left 1
    focus
      go_simp
      refine hK _ _ ?_
      clear hK K
      refine wpAny_ready (rs := [0, 2]) (by kernel_rfl) (by simp) (AllReady.cons rfl (fun K hK => ?_) (AllReady.cons rfl (fun K hK => ?_) AllReady.nil))
      focus
        go_simp
        refine hK _ _ ?_
        clear hK K
        refine wpAny_ready (rs := [2]) (by kernel_rfl) (by simp) (AllReady.cons rfl (fun K hK => ?_) AllReady.nil)
        go_simp
        refine hcon.mono ?_
        rintro _ w2 ⟨A', c', rfl, hr2, hbo⟩
        have ob2 : w2.heap[w.heap.size + 1]? = some (.cells #[v1] 34 (0, 0)) := (hbo.block _ (Array.getElem?_eq_some_iff.1 hO3.box).1).trans hO3.box
        have oc2 : w2.cell? ⟨w.heap.size + 1, 0, none⟩ = some v1 := by rw [cell_of_row w2 _ 0 _ _ _ ob2]; rfl
        have oc2' : ∀ o, (w2.alloc o).cell? ⟨w.heap.size + 1, 0, none⟩ = some v1 := fun o => (World.cell?_of_block (heap_alloc_old w2 o (Array.getElem?_eq_some_iff.1 ob2).1)).trans oc2
        go_simp
        refine hK _ _ ?_
        clear hK K
        refine wpAny_ready (rs := [3]) (by kernel_rfl) (by simp) (AllReady.cons rfl (fun K hK => ?_) AllReady.nil)
        go_simp
        refine hK _ _ ?_
        clear hK K
      rotate_left 1
      focus
        go_simp
        refine hcon.mono ?_
        rintro _ w2 ⟨A', c', rfl, hr2, hbo⟩
        have ob2 : w2.heap[w.heap.size + 1]? = some (.cells #[v1] 34 (0, 0)) := (hbo.block _ (Array.getElem?_eq_some_iff.1 hO3.box).1).trans hO3.box
        have oc2 : w2.cell? ⟨w.heap.size + 1, 0, none⟩ = some v1 := by rw [cell_of_row w2 _ 0 _ _ _ ob2]; rfl
        have oc2' : ∀ o, (w2.alloc o).cell? ⟨w.heap.size + 1, 0, none⟩ = some v1 := fun o => (World.cell?_of_block (heap_alloc_old w2 o (Array.getElem?_eq_some_iff.1 ob2).1)).trans oc2
        go_simp
        refine hK _ _ ?_
        clear hK K
        refine wpAny_ready (rs := [0, 3]) (by kernel_rfl) (by simp) (AllReady.cons rfl (fun K hK => ?_) (AllReady.cons rfl (fun K hK => ?_) AllReady.nil))
        focus
          go_simp
          refine hK _ _ ?_
          clear hK K
          refine wpAny_ready (rs := [3]) (by kernel_rfl) (by simp) (AllReady.cons rfl (fun K hK => ?_) AllReady.nil)
          go_simp
          refine hK _ _ ?_
          clear hK K
        rotate_left 1
        focus
          go_simp
          refine hK _ _ ?_
          clear hK K
          refine wpAny_ready (rs := [0]) (by kernel_rfl) (by simp) (AllReady.cons rfl (fun K hK => ?_) AllReady.nil)
          go_simp
          refine hK _ _ ?_
          clear hK K
        rotate_left 1
      rotate_left 2
    rotate_left 3
    all_goals
      refine wpAny_ready (rs := [4]) (by kernel_rfl) (by simp) (AllReady.cons rfl (fun K hK => ?_) AllReady.nil)
      refine step_append_row _ (by rfl) (.tmp 22) (.tmp 25) 34 (by rfl) 44 i0 _ 6 _ Try.underlying34 hi hz hz1 hz2 rfl v1 g1 _ _ (by rfl) (rowK _ ?_) ⟨w2.heap.size, 0, none⟩ 1 1 (enV x.e A' c') (by rfl) (by rfl) ?_ ?_ ?_ ?_ (by decide) ?_
      · intro e
        have h3 := (hO3.gb e).2
        exact (heap_alloc_old w2 _ (Nat.lt_of_lt_of_le h3 hbo.size)).trans (hbo.block g1 h3)
      · exact news_new w2 (enV x.e A' c') 44
      · exact enV_one x.e A' c'
      · unfold maxLen; omega
      · omega
      intro v2 w3 g2 hrow2 hgr hv2 hg2 hlt2
      obtain ⟨cap2, rfl⟩ := hrow2.form hv2
      have z2 := (Array.getElem?_eq_some_iff.1 ob2).1
      have hnb : some (w.heap.size + 1) ≠ v1.ownBlock := fun e => by
        obtain ⟨n1, _⟩ := hO3.ownb (b := w.heap.size + 1) (by omega) (.inr (.inl e.symm))
        rcases hO3.row.ownB with e' | e'
        · rw [e'] at e; cases e
        · have := (hO3.gb e').1
          rw [e'] at e
          injection e with e
          omega
      have ob3 : w3.heap[w.heap.size + 1]? = some (.cells #[v1] 34 (0, 0)) := (hgr.block _ (by simp; omega) hnb).trans ((heap_alloc_old w2 _ z2).trans ob2)
      have oc3 : w3.cell? ⟨w.heap.size + 1, 0, none⟩ = some v1 := by rw [cell_of_row w3 _ 0 _ _ _ ob3]; rfl
      have of3 := frozen_blk ob3 0
      refine hK _ _ ?_
      clear hK K
      refine wpAny_ready (rs := [5]) (by kernel_rfl) (by simp) (AllReady.cons rfl (fun K hK => ?_) AllReady.nil)
      go_simp
      refine hK _ _ ?_
      clear hK K
      refine wpAny_done (by kernel_rfl) ?_ _
      obtain ⟨s1, s2⟩ := hO3.step (x := x.e) (by omega) (by omega) ⟨hbo.os, hbo.tape, hbo.output, hbo.size, hbo.block⟩ hr2 hgr hg2 hlt2 hrow2
      clear hrow2 hgr hg2 hbo rowK hcon ob2 ob3 oc oc2 oc2' oc3 of3 c0 c1 c2 c3 c4 c5 hlt2 hnb hr2
      simp only [List.length_map] at s1 s2
      generalize w3.setCell ⟨w.heap.size + 1, 0, none⟩ (.slice (some ⟨g2, 0, none⟩) (pre.length + 1) cap2) = Wf at *
      have o3 : Wf.cell? ⟨w.heap.size + 1, 0, none⟩ = some (.slice (some ⟨g2, 0, none⟩) (pre.length + 1) cap2) := by rw [cell_of_row _ _ 0 _ _ _ s1.box]; rfl
      have m3 : Wf.cell? ⟨w.heap.size, 0, none⟩ = some (.int .i64 most) := by rw [cell_of_row _ _ 0 _ _ _ ((s1.low.block _ (by omega)).trans q0)]; rfl
      have s1' : OutK w4 (w.heap.size + 4) (w.heap.size + 1) (List.map El.e (pre ++ [x])) (.slice (some ⟨g2, 0, none⟩) (pre.length + 1) cap2) g2 (fun b => D1 b ∨ (∃ a, A' = some a ∧ a.block = b)) (ds1 ++ [(A', c')]) Wf := by
        rw [hz4] at s1
        rw [List.map_append]
        exact s1
      by_cases hq : (pre.length : Int) + 1 = most
      · have hq' : ((pre.length : Int) + 1 == most) = true := by simp [hq]
        gi_wp2
        exact ⟨(_, _, _, _), s2, rfl, s1', by simp; omega⟩
      · have hq' : ((pre.length : Int) + 1 == most) = false := by simp [hq]
        gi_wp2
        exact ⟨(_, _, _, _), s2, s1', by simp; omega⟩
  case done =>
    rintro D xs ⟨v1, g1, D1, ds1⟩ W hD hS ⟨hO, hmo⟩ hK
    have oc : W.cell? ⟨w.heap.size + 1, 0, none⟩ = some v1 := by rw [cell_of_row _ _ 0 _ _ _ hO.box]; rfl
    have hf := hO.fin (w := w) (by omega) (by omega) hB4 hD hK
    have HS : Hid (xs.map El.e = (fromI es i).take most.toNat) := by
      rw [List.take_of_length_le (by rw [← hS]; simp; omega)]
      exact hS
    rw [HS.out] at hf
    clear hS
    gi_wp2
    exact ⟨by simp, .inl ⟨_, _, rfl, run_takeDeferred hK, v1, by simp [results, Try.results40, go_sem], hf⟩⟩
  case stop =>
    rintro D c pre ⟨v1, g1, D1, ds1⟩ W hD ⟨k, hS⟩ ⟨rfl, hO, hmo⟩ hK
    have oc : W.cell? ⟨w.heap.size + 1, 0, none⟩ = some v1 := by rw [cell_of_row _ _ 0 _ _ _ hO.box]; rfl
    have hf := hO.fin (w := w) (by omega) (by omega) hB4 hD hK
    have HS : Hid (pre.map El.e = (fromI es i).take most.toNat) := by
      have h1 := congrArg List.length hS
      simp at h1
      have h2 : most.toNat = pre.length := by omega
      rw [hS, h2]
      rcases Nat.le_total k (fromI es i).length with h3 | h3
      · rw [show pre.length = k by omega]; exact rfl
      · rw [List.take_of_length_le h3, List.take_of_length_le (by omega)]; exact rfl
    rw [HS.out] at hf
    clear hS
    gi_wp2
    exact ⟨by simp, .inl ⟨_, _, rfl, run_takeDeferred hK, v1, by simp [results, Try.results40, go_sem], hf⟩⟩
end Go.Proofs.Ythfofnfkopnbhaa
