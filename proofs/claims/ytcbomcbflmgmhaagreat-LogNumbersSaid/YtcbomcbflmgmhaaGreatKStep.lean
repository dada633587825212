/- step: over this seat's program. -/
import Derived.Test.YtcbomcbflmgmhaaGreatKStep2
namespace Go.Proofs.YtcbomcbflmgmhaaGreat
open Go.RowKit
set_option linter.unusedVariables false
set_option maxRecDepth 100000

theorem fitR_len (es ns : List En) (i t : Int) : (fitR es ns i t).2.2.2.length ≤ es.length + ns.length := by
  unfold fitR
  split
  · split
    · simp
    · simp; omega
  · simp
theorem fitR_mem (es ns : List En) (i t : Int) : ∀ x ∈ (fitR es ns i t).2.2.2, x ∈ es ∨ x ∈ ns := by
  unfold fitR
  intro x
  split
  · split
    · exact .inl
    · intro hx
      simp only [List.mem_append] at hx
      exact hx.imp List.mem_of_mem_take List.mem_of_mem_drop
  · exact .inl
theorem add_zero' (a : Addr) : a.add 0 = a := by unfold Addr.add; cases a; split <;> simp_all
theorem Addr.add0 (g j : Nat) : (⟨g, 0, none⟩ : Addr).add j = ⟨g, j, none⟩ := by unfold Addr.add; split <;> simp_all
theorem LentAt.blk {w : World} {N g : Nat} {es : List En} {ds : List (Option Addr × Nat)} (h : LentAt w N g es ds) (i : Nat) (e : En) (b : Nat) (he : es[i]? = some e) (hb : Bk w b 5 (u8s (e.data ++ marks 12))) (hc : ∀ j, j < 6 → w.cell? (((⟨g, 0, none⟩ : Addr).add (i * 6)).add j) = (enV e (some ⟨b, 0, none⟩) (e.data.length + 12))[j]?) : N ≤ b := by
  have hi := (List.getElem?_eq_some_iff.1 he).1
  have hd : i < ds.length := by rw [h.len]; exact hi
  obtain ⟨b', ⟨h1, h2⟩, h3, h4⟩ := h.data i e ds[i] he (List.getElem?_eq_getElem hd)
  have hv := rowV_get (es ++ markE 12) (ds ++ nones 12) i e ds[i] (by rw [List.getElem?_append_left hi]; exact he) (by rw [List.getElem?_append_left hd]; exact List.getElem?_eq_getElem hd) 5 (by omega)
  have h5 := hc 5 (by omega)
  rw [Addr.add0] at h5
  have h6 : (⟨g, i * 6, none⟩ : Addr).add 5 = ⟨g, i * 6 + 5, none⟩ := by unfold Addr.add; split <;> simp_all
  rw [h6, h.row.cell, hv, h1] at h5
  simp [enV] at h5
  omega
theorem LentAt.ents {w : World} {N g : Nat} {es : List En} {ds : List (Option Addr × Nat)} (h : LentAt w N g es ds) (hn : es.length + 12 ≤ maxLen) (hd : ∀ e ∈ es, e.data.length + 12 ≤ maxLen) : Ents w (fun b => N ≤ b ∧ b < w.heap.size) (some ⟨g, 0, none⟩) (es.length + 12) es := by
  refine ⟨(fun e => by cases e), by omega, hn, fun _ => ⟨_, rfl, fun i e hi => ?_⟩⟩
  obtain ⟨b, h1, h2⟩ := h.e.one i e hi
  refine ⟨some ⟨b, 0, none⟩, e.data.length + 12, ?_, h1, (LentD.rd (e := e) (d := (some ⟨b, 0, none⟩, e.data.length + 12)) ⟨rfl, h2⟩).keep (fun _ _ => rfl) (fun k hk => ?_), by omega, hd e (List.mem_of_getElem? hi)⟩
  · rw [add_blk]; exact ⟨h.gb, h.row.lt⟩
  · subst hk; exact ⟨h.blk i e k hi h2 h1, h2.lt⟩
theorem TwoS.fin {S R : Nat → Prop} {w w1 w8 w9 : World} {p q : Nat} {La Lb : List En} (h : TwoS S R w1 p q La Lb w8) (hS : ∀ b, S b → b < w.heap.size) (hR : ∀ b, R b → b < w.heap.size) (hb : Below w.heap.size w w1) (h9 : Ag (fun k => ¬ (w.heap.size + 1 ≤ k ∧ k < w1.heap.size)) w8 w9) : TwoS S R w p q La Lb w9 := by
  obtain ⟨S', R', h1, h2, h3, h4, h5, h6⟩ := h
  have hs1 := hb.size
  have hs6 := h6.size
  have hs9 := h9.size
  have nf : ∀ {S S' : Nat → Prop}, (∀ b, S b → b < w.heap.size) → (∀ b, S' b → S b ∨ Fresh w1 w8 b) → ∀ b, S' b → ¬ (w.heap.size + 1 ≤ b ∧ b < w1.heap.size) := fun hS h4 b hb' ⟨e1, e2⟩ => (h4 b hb').elim (fun h => by have := hS b h; omega) (fun h => by have := h.1; omega)
  refine ⟨S', R', h1.keep (h9.mono (fun b _ hb' => nf hS h4 b hb')), h2.keep (h9.mono (fun b _ hb' => nf hR h5 b hb')), h3, fun b hb' => (h4 b hb').imp id (fun h => ⟨by have := h.1; omega, by have := h.2; omega⟩), fun b hb' => (h5 b hb').imp id (fun h => ⟨by have := h.1; omega, by have := h.2; omega⟩), ?_⟩
  exact ⟨h9.os.trans (h6.os.trans hb.os), h9.tape.trans (h6.tape.trans hb.tape), h9.output.trans (h6.output.trans hb.output), by omega, fun b hb' hk => (h9.block b (by omega) (fun h => by omega)).trans ((h6.block b (by omega) hk).trans (hb.block b hb'))⟩
theorem fromI_mem {es : List En} {i : Int} {e : En} (h : e ∈ fromI es i) : e ∈ es := by
  unfold fromI at h
  split at h
  · exact List.mem_of_mem_drop h
  · simp at h
theorem fromI_len (es : List En) (i : Int) (k : Nat) : ((fromI es i).take k).length ≤ es.length := by
  unfold fromI
  split <;> simp <;> omega
theorem gave_same {es : List En} {i : Int} {x y : En} {b b' : Bool} (h : (1 ≤ i ∧ es[(i - 1).toNat]? = some x ∧ b = true) ∨ (¬ (1 ≤ i ∧ i ≤ es.length) ∧ x = en0 ∧ b = false)) (h' : (1 ≤ i ∧ es[(i - 1).toNat]? = some y ∧ b' = true) ∨ (¬ (1 ≤ i ∧ i ≤ es.length) ∧ y = en0 ∧ b' = false)) : x = y ∧ b = b' := by
  have out : ∀ z : En, 1 ≤ i → es[(i - 1).toNat]? = some z → i ≤ es.length := fun z h1 h2 => by have := (List.getElem?_eq_some_iff.1 h2).1; omega
  rcases h with ⟨h1, h2, rfl⟩ | ⟨h1, rfl, rfl⟩ <;> rcases h' with ⟨k1, k2, rfl⟩ | ⟨k1, rfl, rfl⟩
  · rw [h2] at k2; injection k2 with k2; exact ⟨k2, rfl⟩
  · exact absurd ⟨h1, out x h1 h2⟩ k1
  · exact absurd ⟨k1, out y k1 k2⟩ h1
  · exact ⟨rfl, rfl⟩
def StepP (S R : Nat → Prop) (w : World) (p q : Nat) (es ns : List En) (e : Ending) (w' : World) : Prop :=
  e = .returned (.bool true) ∧ ∃ es', TwoS S R w p q es' es' w' ∧ es'.length ≤ es.length + ns.length ∧ ∀ x ∈ es', x ∈ es ∨ x ∈ ns
set_option linter.unusedSimpArgs false in
set_option maxHeartbeats 8000000 in
theorem step_any (S R K : Nat → Prop) (w : World) (p q : Nat) (es ns : List En) (op idx t most : Int) (A : Option Addr) (c : Nat) (hL : LogS S w p es) (hRf : RefS R w q es) (hd0 : ∀ b, S b → ¬ R b) (hS : ∀ b, S b → b < w.heap.size) (hR : ∀ b, R b → b < w.heap.size)
    (ha : Ents w K A c ns) (hK : ∀ b, K b → b < w.heap.size ∧ ¬ S b ∧ ¬ R b) (hn : es.length + ns.length + 1 ≤ 100000) (hde : ∀ e ∈ es, e.data.length ≤ 1000000) (hdn : ∀ e ∈ ns, e.data.length ≤ 1000000) :
    Calls Tryz.prog 12 #[.pointer (some ⟨p, 0, none⟩), .pointer (some ⟨q, 0, none⟩), .agg #[.int .i64 op, .int .i64 idx, .int .i64 t, .int .i64 most, .slice A ns.length c]] w (StepP S R w p q es ns) := by
  have hbA : Below w.heap.size w (w.alloc (.cells #[.int .i64 op, .int .i64 idx, .int .i64 t, .int .i64 most, .slice A ns.length c] 34)) := (Below.refl _ _).alloc (Nat.le_refl _) _
  have haA := ha.keep (K' := K) (fun b hb' => hbA.block b (hK b hb').1) (fun _ h => h)
  go_enter Tryz.func12, Tryz.ntmps12
  go_wp2_with fail
  refine (LentEntries_any K A c ns _ haA (fun b hb' => by have := (hK b hb').1; simp; omega) (by omega) hdn).mono ?_
  rintro _ w1 ⟨g, ds, rfl, hLn, hb1⟩
  have hz : (w.alloc (.cells #[.int .i64 op, .int .i64 idx, .int .i64 t, .int .i64 most, .slice A ns.length c] 34)).heap.size = w.heap.size + 1 := by simp
  rw [hz] at hLn
  have hbw1 : Below w.heap.size w w1 := hbA.trans (hb1.mono (by simp))
  have hsz1 : w.heap.size + 1 ≤ w1.heap.size := by have := hb1.size; rw [hz] at this; exact this
  have bx : w1.heap[w.heap.size]? = some (.cells #[.int .i64 op, .int .i64 idx, .int .i64 t, .int .i64 most, .slice A ns.length c] 34 (0, 0)) := (hb1.block _ (by simp)).trans (heap_alloc_new w _)
  have e0 : w1.cell? ⟨w.heap.size, 0, none⟩ = some (.int .i64 op) := (cell_of_row w1 _ 0 _ _ _ bx).trans rfl
  have e1 : w1.cell? ⟨w.heap.size, 1, none⟩ = some (.int .i64 idx) := (cell_of_row w1 _ 1 _ _ _ bx).trans rfl
  have e2 : w1.cell? ⟨w.heap.size, 2, none⟩ = some (.int .i64 t) := (cell_of_row w1 _ 2 _ _ _ bx).trans rfl
  have e3 : w1.cell? ⟨w.heap.size, 3, none⟩ = some (.int .i64 most) := (cell_of_row w1 _ 3 _ _ _ bx).trans rfl
  have e4 : w1.cell? ⟨w.heap.size, 4, none⟩ = some (.slice A ns.length c) := (cell_of_row w1 _ 4 _ _ _ bx).trans rfl
  have hT : TwoS S R w1 p q es es w1 := TwoS.start (hL.keep (Ag.of_below _ hbw1 |> fun h => h)) (hRf.keep (Ag.of_below _ hbw1)) hd0
  have ha1 : Ents w1 K A c ns := ha.keep (fun b hb' => hbw1.block b (hK b hb').1) (fun _ h => h)
  have hS1 : ∀ b, S b → b < w1.heap.size := fun b h => by have := hS b h; omega
  have hR1 : ∀ b, R b → b < w1.heap.size := fun b h => by have := hR b h; omega
  have hK1 : ∀ b, K b → b < w1.heap.size ∧ ¬ S b ∧ ¬ R b := fun b h => ⟨by have := (hK b h).1; omega, (hK b h).2⟩
  have hnew : ∀ b, w.heap.size ≤ b → ¬ S b ∧ ¬ R b := fun b hb' => ⟨fun h => by have := hS b h; omega, fun h => by have := hR b h; omega⟩
  have hEn : Ents w1 (fun b => w.heap.size + 1 ≤ b ∧ b < w1.heap.size) (some ⟨g, 0, none⟩) (ns.length + 12) ns := hLn.ents (by unfold maxLen; omega) (fun e he => by have := hdn e he; unfold maxLen; omega)
  clear bx hz hb1 hbA haA hL hRf ha
  go_wp2_with fail
  refine (pick_any op 6 w1 (by omega) (by omega)).mono ?_
  rintro _ wq ⟨rfl, rfl⟩
  obtain ⟨hz0, hz6⟩ := pickI_range op 6 (by omega)
  generalize pickI op 6 = z at *
  have hzz : z = 0 ∨ z = 1 ∨ z = 2 ∨ z = 3 ∨ z = 4 ∨ z = 5 := by omega
  clear hz0 hz6
  rcases hzz with rfl | rfl | rfl | rfl | rfl | rfl
  · by_cases hns : 0 < ns.length
    · have dn : decide ((0 : Int) < (ns.length : Int)) = true := decide_eq_true (by omega)
      obtain ⟨a, e, D, d, rfl, ka, hx, ca, ra, la, ma⟩ := ha1.at_ hns
      obtain ⟨a0, a1, a2, a3, a4, a5⟩ := en6 ca
      obtain ⟨eb, cb, hbk⟩ := hLn.e.one 0 e hx.out
      have l0 := cb 0 (by omega)
      have l1 := cb 1 (by omega)
      have l2 := cb 2 (by omega)
      have l3 := cb 3 (by omega)
      have l4 := cb 4 (by omega)
      have l5 := cb 5 (by omega)
      simp only [Nat.zero_mul, add_zero', Addr.add0, enV, List.getElem?_cons_zero, List.getElem?_cons_succ] at l0 l1 l2 l3 l4 l5
      simp only [Nat.zero_mul, add_zero'] at a0 a1 a2 a3 a4 a5
      have ebk := hLn.blk 0 e eb hx.out hbk cb
      have hed := hdn e (List.mem_of_getElem? hx.out)
      have HX := Lib.hid hx.out
      have keepS : ∀ w', Ag (fun k => ¬ S k ∧ ¬ R k) w1 w' → (w'.cell? ⟨w.heap.size, 4, none⟩ = some (.slice (some a) ns.length c) ∧ w'.cell? ⟨g, 0, none⟩ = some (.int .i64 e.term) ∧ w'.cell? ⟨g, 1, none⟩ = some (.int .u8 e.kind) ∧ w'.cell? ⟨g, 2, none⟩ = some (.int .i64 e.ver) ∧ w'.cell? ⟨g, 3, none⟩ = some (.int .i64 e.srv) ∧ w'.cell? ⟨g, 4, none⟩ = some (.bool e.good) ∧ w'.cell? ⟨g, 5, none⟩ = some (.slice (some ⟨eb, 0, none⟩) e.data.length (e.data.length + 12)) ∧ w'.cell? a = some (.int .i64 e.term) ∧ w'.cell? ⟨a.block, a.off + 1, none⟩ = some (.int .u8 e.kind) ∧ w'.cell? ⟨a.block, a.off + 2, none⟩ = some (.int .i64 e.ver) ∧ w'.cell? ⟨a.block, a.off + 3, none⟩ = some (.int .i64 e.srv) ∧ w'.cell? ⟨a.block, a.off + 4, none⟩ = some (.bool e.good) ∧ w'.cell? ⟨a.block, a.off + 5, none⟩ = some (.slice D e.data.length d)) := by
        intro w' hb'
        have hkk : ∀ (p : Addr) u, w1.cell? p = some u → ¬ S p.block ∧ ¬ R p.block → w'.cell? p = some u := fun p u hu hn => (World.cell?_of_block (hb'.block _ (World.block_lt_of_cell? w1 _ hu) hn)).trans hu
        have n1 := hnew w.heap.size (Nat.le_refl _)
        have n2 := hnew g (by have := hLn.gb; omega)
        have n3 := (hK1 _ ka).2
        exact ⟨hkk _ _ e4 n1, hkk _ _ l0 n2, hkk _ _ l1 n2, hkk _ _ l2 n2, hkk _ _ l3 n2, hkk _ _ l4 n2, hkk _ _ l5 n2, hkk _ _ a0 n3, hkk _ _ a1 n3, hkk _ _ a2 n3, hkk _ _ a3 n3, hkk _ _ a4 n3, hkk _ _ a5 n3⟩
      have hput : ∀ w', TwoS S R w1 p q es es w' → Calls Tryz.prog 30 #[.pointer (some ⟨p, 0, none⟩), .agg #[.int .i64 e.term, .int .u8 e.kind, .int .i64 e.ver, .int .i64 e.srv, .bool e.good, .slice (some ⟨eb, 0, none⟩) e.data.length (e.data.length + 12)]] w' fun x w'' => x = .returned (.int .i64 (es.length + 1)) ∧ TwoS S R w1 p q (es ++ [e]) es w'' := fun w' h => put_T (K := fun k => k = eb) (e := e) (A := some ⟨eb, 0, none⟩) (c := e.data.length + 12) h hS1 hR1 (LentD.rd (d := (some ⟨eb, 0, none⟩, e.data.length + 12)) ⟨rfl, hbk⟩) (fun b hb' => by subst hb'; exact ⟨hbk.lt, hnew _ (by omega)⟩) (by omega) (by unfold maxLen; omega) (by omega) (by omega)
      have hrput : ∀ w', TwoS S R w1 p q (es ++ [e]) es w' → Calls Tryz.prog 31 #[.pointer (some ⟨q, 0, none⟩), .agg #[.int .i64 e.term, .int .u8 e.kind, .int .i64 e.ver, .int .i64 e.srv, .bool e.good, .slice D e.data.length d]] w' fun x w'' => x = .returned (.int .i64 (es.length + 1)) ∧ TwoS S R w1 p q (es ++ [e]) (es ++ [e]) w'' := fun w' h => rput_T (K := K) (e := e) (A := D) (c := d) h hS1 hR1 ra hK1 (by omega) hed
      clear ca cb a0 a1 a2 a3 a4 a5 l0 l1 l2 l3 l4 l5
      go_wp2_with fail
      refine wp_region_held_drew (S := fun w' => (w'.cell? ⟨w.heap.size, 4, none⟩ = some (.slice (some a) ns.length c) ∧ w'.cell? ⟨g, 0, none⟩ = some (.int .i64 e.term) ∧ w'.cell? ⟨g, 1, none⟩ = some (.int .u8 e.kind) ∧ w'.cell? ⟨g, 2, none⟩ = some (.int .i64 e.ver) ∧ w'.cell? ⟨g, 3, none⟩ = some (.int .i64 e.srv) ∧ w'.cell? ⟨g, 4, none⟩ = some (.bool e.good) ∧ w'.cell? ⟨g, 5, none⟩ = some (.slice (some ⟨eb, 0, none⟩) e.data.length (e.data.length + 12)) ∧ w'.cell? a = some (.int .i64 e.term) ∧ w'.cell? ⟨a.block, a.off + 1, none⟩ = some (.int .u8 e.kind) ∧ w'.cell? ⟨a.block, a.off + 2, none⟩ = some (.int .i64 e.ver) ∧ w'.cell? ⟨a.block, a.off + 3, none⟩ = some (.int .i64 e.srv) ∧ w'.cell? ⟨a.block, a.off + 4, none⟩ = some (.bool e.good) ∧ w'.cell? ⟨a.block, a.off + 5, none⟩ = some (.slice D e.data.length d))) (by kernel_rfl) (keepS _ (Ag.refl _ _).drew) (fun hS9 => ?_)
      refine wpAnyH_take (i := 0) (v := ?_) rfl (by kernel_rfl) (by kernel_rfl) (by kernel_rfl) (fun _ _ _ h => h) (Or.inl ⟨by rfl, ?_⟩) hS9 ?_
      rotate_left 1
      · intro w' hSw
        go_simp <;> with_reducible rfl
      try simp only [List.getElem_toArray, List.getElem_cons_zero, List.getElem_cons_succ, Act.put, List.setIfInBounds_toArray, List.set_cons_zero, List.set_cons_succ]
      refine wpAnyH_take (i := 1) (v := ?_) rfl (by kernel_rfl) (by kernel_rfl) (by kernel_rfl) (fun _ _ _ h => h) (Or.inl ⟨by rfl, ?_⟩) hS9 ?_
      rotate_left 1
      · intro w' hSw
        go_simp <;> with_reducible rfl
      try simp only [List.getElem_toArray, List.getElem_cons_zero, List.getElem_cons_succ, Act.put, List.setIfInBounds_toArray, List.set_cons_zero, List.set_cons_succ]
      refine wpAnyH_take (i := 2) (v := ?_) rfl (by kernel_rfl) (by kernel_rfl) (by kernel_rfl) (fun _ _ _ h => h) (Or.inl ⟨by rfl, ?_⟩) hS9 ?_
      rotate_left 1
      · intro w' hSw
        go_simp <;> with_reducible rfl
      try simp only [List.getElem_toArray, List.getElem_cons_zero, List.getElem_cons_succ, Act.put, List.setIfInBounds_toArray, List.set_cons_zero, List.set_cons_succ]
      refine wpAnyH_take (i := 3) (v := ?_) rfl (by kernel_rfl) (by kernel_rfl) (by kernel_rfl) (fun _ _ _ h => h) (Or.inl ⟨by rfl, ?_⟩) hS9 ?_
      rotate_left 1
      · intro w' hSw
        go_simp <;> with_reducible rfl
      try simp only [List.getElem_toArray, List.getElem_cons_zero, List.getElem_cons_succ, Act.put, List.setIfInBounds_toArray, List.set_cons_zero, List.set_cons_succ]
      refine wpAnyH_take (i := 5) (v := ?_) rfl (by kernel_rfl) (by kernel_rfl) (by kernel_rfl) (fun _ _ _ h => h) (Or.inl ⟨by rfl, ?_⟩) hS9 ?_
      rotate_left 1
      · intro w' hSw
        go_simp <;> with_reducible rfl
      try simp only [List.getElem_toArray, List.getElem_cons_zero, List.getElem_cons_succ, Act.put, List.setIfInBounds_toArray, List.set_cons_zero, List.set_cons_succ]
      refine wpAnyH_take (i := 6) (v := ?_) rfl (by kernel_rfl) (by kernel_rfl) (by kernel_rfl) (fun _ _ _ h => h) (Or.inl ⟨by rfl, ?_⟩) hS9 ?_
      rotate_left 1
      · intro w' hSw
        go_simp <;> with_reducible rfl
      try simp only [List.getElem_toArray, List.getElem_cons_zero, List.getElem_cons_succ, Act.put, List.setIfInBounds_toArray, List.set_cons_zero, List.set_cons_succ]
      refine wpAnyH_take (i := 7) (v := ?_) rfl (by kernel_rfl) (by kernel_rfl) (by kernel_rfl) (fun _ _ _ h => h) (Or.inl ⟨by rfl, ?_⟩) hS9 ?_
      rotate_left 1
      · intro w' hSw
        go_simp <;> with_reducible rfl
      try simp only [List.getElem_toArray, List.getElem_cons_zero, List.getElem_cons_succ, Act.put, List.setIfInBounds_toArray, List.set_cons_zero, List.set_cons_succ]
      refine wpAnyH_take (i := 8) (v := ?_) rfl (by kernel_rfl) (by kernel_rfl) (by kernel_rfl) (fun _ _ _ h => h) (Or.inl ⟨by rfl, ?_⟩) hS9 ?_
      rotate_left 1
      · intro w' hSw
        go_simp <;> with_reducible rfl
      try simp only [List.getElem_toArray, List.getElem_cons_zero, List.getElem_cons_succ, Act.put, List.setIfInBounds_toArray, List.set_cons_zero, List.set_cons_succ]
      refine wpAnyH_take (i := 9) (v := ?_) rfl (by kernel_rfl) (by kernel_rfl) (by kernel_rfl) (fun _ _ _ h => h) (Or.inl ⟨by rfl, ?_⟩) hS9 ?_
      rotate_left 1
      · intro w' hSw
        go_simp <;> with_reducible rfl
      try simp only [List.getElem_toArray, List.getElem_cons_zero, List.getElem_cons_succ, Act.put, List.setIfInBounds_toArray, List.set_cons_zero, List.set_cons_succ]
      refine wpAnyH_ready (rs := [4]) (by kernel_rfl) (by simp) (AllReadyH.cons rfl (fun K9 hK9 => ?_) AllReadyH.nil)
      go_simp
      refine (hput _ (hT.below (Below.refl _ _).drew)).mono ?_
      rintro _ w5 ⟨rfl, hTw5⟩
      go_simp
      refine hK9.out _ _ (keepS _ hTw5.ag) (fun hS9 => ?_)
      clear hK9 K9
      try simp only [List.getElem_toArray, List.getElem_cons_zero, List.getElem_cons_succ, Act.put, List.setIfInBounds_toArray, List.set_cons_zero, List.set_cons_succ]
      refine wpAnyH_ready (rs := [10]) (by kernel_rfl) (by simp) (AllReadyH.cons rfl (fun K9 hK9 => ?_) AllReadyH.nil)
      go_simp
      refine (hrput _ hTw5).mono ?_
      rintro _ wz ⟨rfl, hTwz⟩
      go_simp
      refine hK9.out _ _ (keepS _ hTwz.ag) (fun hS9 => ?_)
      clear hK9 K9
      try simp only [List.getElem_toArray, List.getElem_cons_zero, List.getElem_cons_succ, Act.put, List.setIfInBounds_toArray, List.set_cons_zero, List.set_cons_succ]
      refine wpAnyH_take (i := 11) (v := ?_) rfl (by kernel_rfl) (by kernel_rfl) (by kernel_rfl) (fun _ _ _ h => h) (Or.inl ⟨by rfl, ?_⟩) hS9 ?_
      rotate_left 1
      · intro w' hSw
        go_simp <;> with_reducible rfl
      try simp only [List.getElem_toArray, List.getElem_cons_zero, List.getElem_cons_succ, Act.put, List.setIfInBounds_toArray, List.set_cons_zero, List.set_cons_succ]
      refine wpAnyH_take (i := 12) (v := ?_) rfl (by kernel_rfl) (by kernel_rfl) (by kernel_rfl) (fun _ _ _ h => h) (Or.inl ⟨by rfl, ?_⟩) hS9 ?_
      rotate_left 1
      · intro w' hSw
        go_simp <;> with_reducible rfl
      try simp only [List.getElem_toArray, List.getElem_cons_zero, List.getElem_cons_succ, Act.put, List.setIfInBounds_toArray, List.set_cons_zero, List.set_cons_succ]
      refine wpAnyH_done (by kernel_rfl) ?_ _
      have hT0 := hTwz
      clear keepS hput hrput hTw5 hS9
      have hZ := hT0.ag
      have ez : wz.cell? ⟨w.heap.size, 4, none⟩ = some (.slice (some a) ns.length c) := (World.cell?_of_block (hZ.block w.heap.size (by omega) ⟨fun h => by have := hS _ h; omega, fun h => by have := hR _ h; omega⟩)).trans e4
      have hkb : ∀ b, w.heap.size ≤ b → b < w1.heap.size → wz.heap[b]? = w1.heap[b]? := fun b h1 h2 => hZ.block b h2 ⟨fun h => by have := hS _ h; omega, fun h => by have := hR _ h; omega⟩
      have hLz : LentAt wz (w.heap.size + 1) g ns ds := hLn.keep (fun b h1 h2 => hkb b (by omega) h2)
      have haz : Ents wz K (some a) c ns := ha1.keep (fun b hb' => hZ.block b (hK1 b hb').1 (hK1 b hb').2) (fun _ h => h)
      go_wp2_with fail
      refine (KeptEntries_true ⟨g, 0, none⟩ ns K (some a) c wz hLz.e haz (fun b hb' => Nat.lt_of_lt_of_le (hK1 b hb').1 hZ.size) (by omega) hdn).mono ?_
      rintro _ w8 ⟨rfl, hb8⟩
      have hT8 := hT0.below hb8
      have hO8 : OverS w8 (w.heap.size + 1) w1.heap.size g ns ds := hLn.over.keep (fun b h1 h2 => (hb8.block b (Nat.lt_of_lt_of_le h2 hZ.size)).trans (hkb b (by omega) h2))
      clear ez hkb hLz haz hT0 hZ
      go_wp2_with fail
      refine (OverEntries_any (w.heap.size + 1) w1.heap.size g ns ds w8 hO8 (by omega) hdn).mono ?_
      rintro _ w9 ⟨⟨r9, rfl⟩, h9⟩
      have hfin := hT8.fin hS hR hbw1 h9
      clear hT8 hO8 h9 hb8
      go_wp2_with fail
      go_ret
      exact ⟨rfl, es ++ [e], hfin, by simp; omega, fun x hx => by simp at hx; exact hx.imp id (fun h => by rw [h]; exact List.mem_of_getElem? HX.out)⟩
    · have dn : decide ((0 : Int) < (ns.length : Int)) = false := decide_eq_false (by omega)
      have hT0 := hT
      have hZ := hT0.ag
      have ez : w1.cell? ⟨w.heap.size, 4, none⟩ = some (.slice A ns.length c) := (World.cell?_of_block (hZ.block w.heap.size (by omega) ⟨fun h => by have := hS _ h; omega, fun h => by have := hR _ h; omega⟩)).trans e4
      have hkb : ∀ b, w.heap.size ≤ b → b < w1.heap.size → w1.heap[b]? = w1.heap[b]? := fun b h1 h2 => hZ.block b h2 ⟨fun h => by have := hS _ h; omega, fun h => by have := hR _ h; omega⟩
      have hLz : LentAt w1 (w.heap.size + 1) g ns ds := hLn.keep (fun b h1 h2 => hkb b (by omega) h2)
      have haz : Ents w1 K A c ns := ha1.keep (fun b hb' => hZ.block b (hK1 b hb').1 (hK1 b hb').2) (fun _ h => h)
      go_wp2_with fail
      refine (KeptEntries_true ⟨g, 0, none⟩ ns K A c w1 hLz.e haz (fun b hb' => Nat.lt_of_lt_of_le (hK1 b hb').1 hZ.size) (by omega) hdn).mono ?_
      rintro _ w8 ⟨rfl, hb8⟩
      have hT8 := hT0.below hb8
      have hO8 : OverS w8 (w.heap.size + 1) w1.heap.size g ns ds := hLn.over.keep (fun b h1 h2 => (hb8.block b (Nat.lt_of_lt_of_le h2 hZ.size)).trans rfl)
      clear ez hkb hLz haz hT0 hZ
      go_wp2_with fail
      refine (OverEntries_any (w.heap.size + 1) w1.heap.size g ns ds w8 hO8 (by omega) hdn).mono ?_
      rintro _ w9 ⟨⟨r9, rfl⟩, h9⟩
      have hfin := hT8.fin hS hR hbw1 h9
      clear hT8 hO8 h9 hb8
      go_wp2_with fail
      go_ret
      exact ⟨rfl, es, hfin, by omega, fun x hx => .inl hx⟩
  · go_wp2_with fail
    refine (fit_T (i := idx) (t := t) hT hS1 hR1 hEn (fun b hb' => ⟨hb'.2, hnew b (by omega)⟩) (by omega) (fun e he => Nat.le_trans (hdn e he) (by omega))).mono ?_
    rintro _ w5 ⟨rfl, hT5⟩
    have hA5 := hT5.ag
    have n1 := hnew w.heap.size (Nat.le_refl _)
    have hkk : ∀ j u, w1.cell? ⟨w.heap.size, j, none⟩ = some u → w5.cell? ⟨w.heap.size, j, none⟩ = some u := fun j u hu => (World.cell?_of_block (hA5.block w.heap.size (by omega) n1)).trans hu
    have f1 := hkk _ _ e1
    have f2 := hkk _ _ e2
    have f4 := hkk _ _ e4
    clear hkk hA5
    have q1 : ((fitR es ns idx t).1 == (fitR es ns idx t).1) = true := by simp
    have q2 : ((fitR es ns idx t).2.1 == (fitR es ns idx t).2.1) = true := by simp
    have q3 : ((fitR es ns idx t).2.2.1 == (fitR es ns idx t).2.2.1) = true := by simp
    go_wp2_with fail
    refine (rfit_T (i := idx) (t := t) hT5 hS1 hR1 ha1 hK1 (by omega) hdn).mono ?_
    rintro _ wz ⟨rfl, hT0⟩
    clear f1 f2 f4 hT5
    have hZ := hT0.ag
    have ez : wz.cell? ⟨w.heap.size, 4, none⟩ = some (.slice A ns.length c) := (World.cell?_of_block (hZ.block w.heap.size (by omega) ⟨fun h => by have := hS _ h; omega, fun h => by have := hR _ h; omega⟩)).trans e4
    have hkb : ∀ b, w.heap.size ≤ b → b < w1.heap.size → wz.heap[b]? = w1.heap[b]? := fun b h1 h2 => hZ.block b h2 ⟨fun h => by have := hS _ h; omega, fun h => by have := hR _ h; omega⟩
    have hLz : LentAt wz (w.heap.size + 1) g ns ds := hLn.keep (fun b h1 h2 => hkb b (by omega) h2)
    have haz : Ents wz K A c ns := ha1.keep (fun b hb' => hZ.block b (hK1 b hb').1 (hK1 b hb').2) (fun _ h => h)
    go_wp2_with fail
    refine (KeptEntries_true ⟨g, 0, none⟩ ns K A c wz hLz.e haz (fun b hb' => Nat.lt_of_lt_of_le (hK1 b hb').1 hZ.size) (by omega) hdn).mono ?_
    rintro _ w8 ⟨rfl, hb8⟩
    have hT8 := hT0.below hb8
    have hO8 : OverS w8 (w.heap.size + 1) w1.heap.size g ns ds := hLn.over.keep (fun b h1 h2 => (hb8.block b (Nat.lt_of_lt_of_le h2 hZ.size)).trans (hkb b (by omega) h2))
    clear ez hkb hLz haz hT0 hZ
    go_wp2_with fail
    refine (OverEntries_any (w.heap.size + 1) w1.heap.size g ns ds w8 hO8 (by omega) hdn).mono ?_
    rintro _ w9 ⟨⟨r9, rfl⟩, h9⟩
    have hfin := hT8.fin hS hR hbw1 h9
    clear hT8 hO8 h9 hb8
    go_wp2_with fail
    go_ret
    exact ⟨rfl, (fitR es ns idx t).2.2.2, hfin, fitR_len _ _ _ _, fitR_mem _ _ _ _⟩
  · go_wp2_with fail
    refine (fit_T (i := idx) (t := t) hT hS1 hR1 hEn (fun b hb' => ⟨hb'.2, hnew b (by omega)⟩) (by omega) (fun e he => Nat.le_trans (hdn e he) (by omega))).mono ?_
    rintro _ w5 ⟨rfl, hT5⟩
    have hA5 := hT5.ag
    have n1 := hnew w.heap.size (Nat.le_refl _)
    have hkk : ∀ j u, w1.cell? ⟨w.heap.size, j, none⟩ = some u → w5.cell? ⟨w.heap.size, j, none⟩ = some u := fun j u hu => (World.cell?_of_block (hA5.block w.heap.size (by omega) n1)).trans hu
    have f1 := hkk _ _ e1
    have f2 := hkk _ _ e2
    have f4 := hkk _ _ e4
    clear hkk hA5
    have q1 : ((fitR es ns idx t).1 == (fitR es ns idx t).1) = true := by simp
    have q2 : ((fitR es ns idx t).2.1 == (fitR es ns idx t).2.1) = true := by simp
    have q3 : ((fitR es ns idx t).2.2.1 == (fitR es ns idx t).2.2.1) = true := by simp
    go_wp2_with fail
    refine (rfit_T (i := idx) (t := t) hT5 hS1 hR1 ha1 hK1 (by omega) hdn).mono ?_
    rintro _ wz ⟨rfl, hT0⟩
    clear f1 f2 f4 hT5
    have hZ := hT0.ag
    have ez : wz.cell? ⟨w.heap.size, 4, none⟩ = some (.slice A ns.length c) := (World.cell?_of_block (hZ.block w.heap.size (by omega) ⟨fun h => by have := hS _ h; omega, fun h => by have := hR _ h; omega⟩)).trans e4
    have hkb : ∀ b, w.heap.size ≤ b → b < w1.heap.size → wz.heap[b]? = w1.heap[b]? := fun b h1 h2 => hZ.block b h2 ⟨fun h => by have := hS _ h; omega, fun h => by have := hR _ h; omega⟩
    have hLz : LentAt wz (w.heap.size + 1) g ns ds := hLn.keep (fun b h1 h2 => hkb b (by omega) h2)
    have haz : Ents wz K A c ns := ha1.keep (fun b hb' => hZ.block b (hK1 b hb').1 (hK1 b hb').2) (fun _ h => h)
    go_wp2_with fail
    refine (KeptEntries_true ⟨g, 0, none⟩ ns K A c wz hLz.e haz (fun b hb' => Nat.lt_of_lt_of_le (hK1 b hb').1 hZ.size) (by omega) hdn).mono ?_
    rintro _ w8 ⟨rfl, hb8⟩
    have hT8 := hT0.below hb8
    have hO8 : OverS w8 (w.heap.size + 1) w1.heap.size g ns ds := hLn.over.keep (fun b h1 h2 => (hb8.block b (Nat.lt_of_lt_of_le h2 hZ.size)).trans (hkb b (by omega) h2))
    clear ez hkb hLz haz hT0 hZ
    go_wp2_with fail
    refine (OverEntries_any (w.heap.size + 1) w1.heap.size g ns ds w8 hO8 (by omega) hdn).mono ?_
    rintro _ w9 ⟨⟨r9, rfl⟩, h9⟩
    have hfin := hT8.fin hS hR hbw1 h9
    clear hT8 hO8 h9 hb8
    go_wp2_with fail
    go_ret
    exact ⟨rfl, (fitR es ns idx t).2.2.2, hfin, fitR_len _ _ _ _, fitR_mem _ _ _ _⟩
  · go_wp2_with fail
    refine (fit_T (i := idx) (t := t) hT hS1 hR1 hEn (fun b hb' => ⟨hb'.2, hnew b (by omega)⟩) (by omega) (fun e he => Nat.le_trans (hdn e he) (by omega))).mono ?_
    rintro _ w5 ⟨rfl, hT5⟩
    have hA5 := hT5.ag
    have n1 := hnew w.heap.size (Nat.le_refl _)
    have hkk : ∀ j u, w1.cell? ⟨w.heap.size, j, none⟩ = some u → w5.cell? ⟨w.heap.size, j, none⟩ = some u := fun j u hu => (World.cell?_of_block (hA5.block w.heap.size (by omega) n1)).trans hu
    have f1 := hkk _ _ e1
    have f2 := hkk _ _ e2
    have f4 := hkk _ _ e4
    clear hkk hA5
    have q1 : ((fitR es ns idx t).1 == (fitR es ns idx t).1) = true := by simp
    have q2 : ((fitR es ns idx t).2.1 == (fitR es ns idx t).2.1) = true := by simp
    have q3 : ((fitR es ns idx t).2.2.1 == (fitR es ns idx t).2.2.1) = true := by simp
    go_wp2_with fail
    refine (rfit_T (i := idx) (t := t) hT5 hS1 hR1 ha1 hK1 (by omega) hdn).mono ?_
    rintro _ wz ⟨rfl, hT0⟩
    clear f1 f2 f4 hT5
    have hZ := hT0.ag
    have ez : wz.cell? ⟨w.heap.size, 4, none⟩ = some (.slice A ns.length c) := (World.cell?_of_block (hZ.block w.heap.size (by omega) ⟨fun h => by have := hS _ h; omega, fun h => by have := hR _ h; omega⟩)).trans e4
    have hkb : ∀ b, w.heap.size ≤ b → b < w1.heap.size → wz.heap[b]? = w1.heap[b]? := fun b h1 h2 => hZ.block b h2 ⟨fun h => by have := hS _ h; omega, fun h => by have := hR _ h; omega⟩
    have hLz : LentAt wz (w.heap.size + 1) g ns ds := hLn.keep (fun b h1 h2 => hkb b (by omega) h2)
    have haz : Ents wz K A c ns := ha1.keep (fun b hb' => hZ.block b (hK1 b hb').1 (hK1 b hb').2) (fun _ h => h)
    go_wp2_with fail
    refine (KeptEntries_true ⟨g, 0, none⟩ ns K A c wz hLz.e haz (fun b hb' => Nat.lt_of_lt_of_le (hK1 b hb').1 hZ.size) (by omega) hdn).mono ?_
    rintro _ w8 ⟨rfl, hb8⟩
    have hT8 := hT0.below hb8
    have hO8 : OverS w8 (w.heap.size + 1) w1.heap.size g ns ds := hLn.over.keep (fun b h1 h2 => (hb8.block b (Nat.lt_of_lt_of_le h2 hZ.size)).trans (hkb b (by omega) h2))
    clear ez hkb hLz haz hT0 hZ
    go_wp2_with fail
    refine (OverEntries_any (w.heap.size + 1) w1.heap.size g ns ds w8 hO8 (by omega) hdn).mono ?_
    rintro _ w9 ⟨⟨r9, rfl⟩, h9⟩
    have hfin := hT8.fin hS hR hbw1 h9
    clear hT8 hO8 h9 hb8
    go_wp2_with fail
    go_ret
    exact ⟨rfl, (fitR es ns idx t).2.2.2, hfin, fitR_len _ _ _ _, fitR_mem _ _ _ _⟩
  · obtain ⟨ens, hens⟩ : ∃ ens : List En, Hid (ens = (fromI es idx).take most.toNat) := ⟨_, rfl⟩
    have hsub : ∀ e ∈ ens, e ∈ es := by rw [hens.out]; exact fun e he => fromI_mem (List.mem_of_mem_take he)
    have hel : ens.length ≤ es.length := by rw [hens.out]; exact fromI_len es idx _
    have hem : ∀ e ∈ ens, e.data.length ≤ 1000000 := fun e he => hde e (hsub e he)
    have hfrom : ∀ w', Below w1.heap.size w1 w' → Calls Tryz.prog 16 #[.pointer (some ⟨p, 0, none⟩), .int .i64 idx, .int .i64 most] w' (FromPK w' ens) := fun w' h => by rw [hens.out]; exact FromKS 0 w' p es idx most (hT.below h).has (by omega) (fun e he => Nat.le_trans (hde e he) (by omega))
    have keepS : ∀ w', Below w1.heap.size w1 w' → ((w'.cell? ⟨w.heap.size, 1, none⟩ = some (.int .i64 idx) ∧ w'.cell? ⟨w.heap.size, 3, none⟩ = some (.int .i64 most)) ∧ Below w1.heap.size w1 w') := fun w' hb' => ⟨⟨(hb'.cell (World.block_lt_of_cell? w1 _ e1)).trans e1, (hb'.cell (World.block_lt_of_cell? w1 _ e3)).trans e3⟩, hb'⟩
    clear hsub
    go_wp2_with fail
    refine wp_region_held_drew (S := fun w' => ((w'.cell? ⟨w.heap.size, 1, none⟩ = some (.int .i64 idx) ∧ w'.cell? ⟨w.heap.size, 3, none⟩ = some (.int .i64 most)) ∧ Below w1.heap.size w1 w')) (by kernel_rfl) (keepS _ (Below.refl _ _).drew) (fun hS9 => ?_)
    refine wpAnyH_take (i := 0) (v := ?_) rfl (by kernel_rfl) (by kernel_rfl) (by kernel_rfl) (fun _ _ _ h => h) (Or.inl ⟨by rfl, ?_⟩) hS9 ?_
    rotate_left 1
    · intro w' hSw
      go_simp <;> with_reducible rfl
    try simp only [List.getElem_toArray, List.getElem_cons_zero, List.getElem_cons_succ, Act.put, List.setIfInBounds_toArray, List.set_cons_zero, List.set_cons_succ]
    refine wpAnyH_take (i := 1) (v := ?_) rfl (by kernel_rfl) (by kernel_rfl) (by kernel_rfl) (fun _ _ _ h => h) (Or.inl ⟨by rfl, ?_⟩) hS9 ?_
    rotate_left 1
    · intro w' hSw
      go_simp <;> with_reducible rfl
    try simp only [List.getElem_toArray, List.getElem_cons_zero, List.getElem_cons_succ, Act.put, List.setIfInBounds_toArray, List.set_cons_zero, List.set_cons_succ]
    refine wpAnyH_take (i := 2) (v := ?_) rfl (by kernel_rfl) (by kernel_rfl) (by kernel_rfl) (fun _ _ _ h => h) (Or.inl ⟨by rfl, ?_⟩) hS9 ?_
    rotate_left 1
    · intro w' hSw
      go_simp <;> with_reducible rfl
    try simp only [List.getElem_toArray, List.getElem_cons_zero, List.getElem_cons_succ, Act.put, List.setIfInBounds_toArray, List.set_cons_zero, List.set_cons_succ]
    refine wpAnyH_take (i := 3) (v := ?_) rfl (by kernel_rfl) (by kernel_rfl) (by kernel_rfl) (fun _ _ _ h => h) (Or.inl ⟨by rfl, ?_⟩) hS9 ?_
    rotate_left 1
    · intro w' hSw
      go_simp <;> with_reducible rfl
    try simp only [List.getElem_toArray, List.getElem_cons_zero, List.getElem_cons_succ, Act.put, List.setIfInBounds_toArray, List.set_cons_zero, List.set_cons_succ]
    refine wpAnyH_take (i := 4) (v := ?_) rfl (by kernel_rfl) (by kernel_rfl) (by kernel_rfl) (fun _ _ _ h => h) (Or.inl ⟨by rfl, ?_⟩) hS9 ?_
    rotate_left 1
    · intro w' hSw
      go_simp <;> with_reducible rfl
    try simp only [List.getElem_toArray, List.getElem_cons_zero, List.getElem_cons_succ, Act.put, List.setIfInBounds_toArray, List.set_cons_zero, List.set_cons_succ]
    refine wpAnyH_take (i := 6) (v := ?_) rfl (by kernel_rfl) (by kernel_rfl) (by kernel_rfl) (fun _ _ _ h => h) (Or.inl ⟨by rfl, ?_⟩) hS9 ?_
    rotate_left 1
    · intro w' hSw
      go_simp <;> with_reducible rfl
    try simp only [List.getElem_toArray, List.getElem_cons_zero, List.getElem_cons_succ, Act.put, List.setIfInBounds_toArray, List.set_cons_zero, List.set_cons_succ]
    refine wpAnyH_take (i := 7) (v := ?_) rfl (by kernel_rfl) (by kernel_rfl) (by kernel_rfl) (fun _ _ _ h => h) (Or.inl ⟨by rfl, ?_⟩) hS9 ?_
    rotate_left 1
    · intro w' hSw
      go_simp <;> with_reducible rfl
    try simp only [List.getElem_toArray, List.getElem_cons_zero, List.getElem_cons_succ, Act.put, List.setIfInBounds_toArray, List.set_cons_zero, List.set_cons_succ]
    refine wpAnyH_take (i := 8) (v := ?_) rfl (by kernel_rfl) (by kernel_rfl) (by kernel_rfl) (fun _ _ _ h => h) (Or.inl ⟨by rfl, ?_⟩) hS9 ?_
    rotate_left 1
    · intro w' hSw
      go_simp <;> with_reducible rfl
    try simp only [List.getElem_toArray, List.getElem_cons_zero, List.getElem_cons_succ, Act.put, List.setIfInBounds_toArray, List.set_cons_zero, List.set_cons_succ]
    refine wpAnyH_take (i := 9) (v := ?_) rfl (by kernel_rfl) (by kernel_rfl) (by kernel_rfl) (fun _ _ _ h => h) (Or.inl ⟨by rfl, ?_⟩) hS9 ?_
    rotate_left 1
    · intro w' hSw
      go_simp <;> with_reducible rfl
    try simp only [List.getElem_toArray, List.getElem_cons_zero, List.getElem_cons_succ, Act.put, List.setIfInBounds_toArray, List.set_cons_zero, List.set_cons_succ]
    refine wpAnyH_take (i := 10) (v := ?_) rfl (by kernel_rfl) (by kernel_rfl) (by kernel_rfl) (fun _ _ _ h => h) (Or.inl ⟨by rfl, ?_⟩) hS9 ?_
    rotate_left 1
    · intro w' hSw
      go_simp <;> with_reducible rfl
    try simp only [List.getElem_toArray, List.getElem_cons_zero, List.getElem_cons_succ, Act.put, List.setIfInBounds_toArray, List.set_cons_zero, List.set_cons_succ]
    refine wpAnyH_ready (rs := [5]) (by kernel_rfl) (by simp) (AllReadyH.cons rfl (fun K9 hK9 => ?_) AllReadyH.nil)
    go_simp
    refine (hfrom _ hS9.2).mono ?_
    rintro _ w5 ⟨v1, g1, ds1, rfl, hl1, hbb1⟩
    have hB1 : Below w1.heap.size w1 w5 := hS9.2.trans (hbb1.mono hS9.2.size)
    obtain ⟨A1, c1, rfl, hE1⟩ := hl1.ents
    go_simp
    refine hK9.out _ _ (keepS _ hB1) (fun hS9 => ?_)
    clear hK9 K9
    try simp only [List.getElem_toArray, List.getElem_cons_zero, List.getElem_cons_succ, Act.put, List.setIfInBounds_toArray, List.set_cons_zero, List.set_cons_succ]
    refine wpAnyH_ready (rs := [11]) (by kernel_rfl) (by simp) (AllReadyH.cons rfl (fun K9 hK9 => ?_) AllReadyH.nil)
    go_simp
    refine (hfrom _ hS9.2).mono ?_
    rintro _ w6 ⟨v2, g2, ds2, rfl, hl2, hbb2⟩
    have hB2 : Below w1.heap.size w1 w6 := hS9.2.trans (hbb2.mono hS9.2.size)
    obtain ⟨A2, c2, rfl, hE2⟩ := hl2.ents
    go_simp
    refine hK9.out _ _ (keepS _ hB2) (fun hS9 => ?_)
    clear hK9 K9
    try simp only [List.getElem_toArray, List.getElem_cons_zero, List.getElem_cons_succ, Act.put, List.setIfInBounds_toArray, List.set_cons_zero, List.set_cons_succ]
    refine wpAnyH_take (i := 12) (v := ?_) rfl (by kernel_rfl) (by kernel_rfl) (by kernel_rfl) (fun _ _ _ h => h) (Or.inl ⟨by rfl, ?_⟩) hS9 ?_
    rotate_left 1
    · intro w' hSw
      go_simp <;> with_reducible rfl
    try simp only [List.getElem_toArray, List.getElem_cons_zero, List.getElem_cons_succ, Act.put, List.setIfInBounds_toArray, List.set_cons_zero, List.set_cons_succ]
    refine wpAnyH_take (i := 13) (v := ?_) rfl (by kernel_rfl) (by kernel_rfl) (by kernel_rfl) (fun _ _ _ h => h) (Or.inl ⟨by rfl, ?_⟩) hS9 ?_
    rotate_left 1
    · intro w' hSw
      go_simp <;> with_reducible rfl
    try simp only [List.getElem_toArray, List.getElem_cons_zero, List.getElem_cons_succ, Act.put, List.setIfInBounds_toArray, List.set_cons_zero, List.set_cons_succ]
    refine wpAnyH_done (by kernel_rfl) ?_ _
    obtain ⟨⟨f1, f3⟩, _⟩ := hS9
    obtain ⟨S', R', k1, k2, k3⟩ := hT.below hB2
    have hrf := refFrom_S R' w6 q es idx most k2 (by omega)
    rw [← hens.out] at hrf
    clear keepS hfrom k3
    go_wp2_with fail
    refine hrf.mono ?_
    rintro _ w7 ⟨A3, c3, rfl, hE3, hb7⟩
    have hb57 : Below w5.heap.size w5 w7 := hbb2.trans (hb7.mono hbb2.size)
    have hsm := SameEntries_any _ _ A1 A3 c1 c3 ens ens w7 (hE1.keep (K' := fun b => b < w7.heap.size) (fun b hb' => hb57.block b hb'.2) (fun b hb' => Nat.lt_of_lt_of_le hb'.2 hb57.size)) hE3 (fun _ h => h) (fun _ h => h)
    rw [decide_eq_true (rfl : ens = ens)] at hsm
    clear hrf hE3 f1 f3
    go_wp2_with fail
    refine hsm.mono ?_
    rintro _ w8 ⟨rfl, hb8⟩
    have hb58 : Below w5.heap.size w5 w8 := hb57.trans (hb8.mono hb57.size)
    have hb68 : Below w6.heap.size w6 w8 := hb7.trans (hb8.mono hb7.size)
    have hb18 : Below w1.heap.size w1 w8 := hB1.trans (hb58.mono hB1.size)
    have hbz : Below w8.heap.size w8 (w8.alloc (.cells #[.slice A1 ens.length c1, .slice A2 ens.length c2] 22)) := (Below.refl _ _).alloc (Nat.le_refl _) _
    obtain ⟨SB, SE, lsB, CB, y1, y2, y3, y4, y5, y6, y7, y8⟩ := two_lists hl1 ((hl2.below hb68).below hbz) hB1.size (hb58.trans (hbz.mono hb58.size))
    have hcon : Calls Tryz.prog 33 #[.slice (some ⟨w8.heap.size, 0, none⟩) 2 2] (w8.alloc (.cells #[.slice A1 ens.length c1, .slice A2 ens.length c2] 22)) fun e w' => e = .returned (.bool true) ∧ Ag (fun b => ¬ SB b ∧ ¬ SE b) (w8.alloc (.cells #[.slice A1 ens.length c1, .slice A2 ens.length c2] 22)) w' :=
      ApartEntries_any SB SE [⟨_, g1, ens, ds1⟩, ⟨_, g2, ens, ds2⟩] lsB CB (some ⟨w8.heap.size, 0, none⟩) 2 _ y1 y2 y3 (fun x hx => by simp at hx; rcases hx with rfl | rfl; (exact hl1.len); (exact hl2.len)) ⟨(fun e => by cases e), fun _ => ⟨_, rfl, by simp, fun j u hu => by
        have h9 := news_new w8 [.slice A1 ens.length c1, .slice A2 ens.length c2] 22 j u hu
        exact h9⟩⟩ (Nat.le_refl _) (by decide) (fun b hb' => (y4 b hb').2) (fun b hb' => (y5 b hb').2) y6 (by omega) (fun x hx => by obtain ⟨e, he, h9⟩ := y8 x hx; rw [h9]; exact hem e he) (by simp) (fun x hx => by simp at hx; rcases hx with rfl | rfl <;> (show ens.length ≤ 1000000; omega))
    have Y4 := Lib.hid y4
    have Y5 := Lib.hid y5
    clear y1 y2 y3 y4 y5 y6 y7 y8 hsm hE1 hE2 hl1 hl2 k1 k2
    go_wp2_with fail
    refine hcon.mono ?_
    rintro _ wz ⟨rfl, hag⟩
    have hBz : Below w1.heap.size w1 (w8.alloc (.cells #[.slice A1 ens.length c1, .slice A2 ens.length c2] 22)) := hb18.trans (hbz.mono hb18.size)
    have hT0 : TwoS S R w1 p q es es wz := hT.below (hBz.trans (hag.below hBz.size (fun k hk => ⟨fun h => by have h9 := (Y4.out k h).1; change w1.heap.size ≤ k at h9; omega, fun h => by have h9 := (Y5.out k h).1; change w1.heap.size ≤ k at h9; omega⟩)))
    clear hcon hag hBz hbz hb18 hb68 hb58 hb57 hb8 hb7 hB1 hB2 hbb1 hbb2
    have hZ := hT0.ag
    have ez : wz.cell? ⟨w.heap.size, 4, none⟩ = some (.slice A ns.length c) := (World.cell?_of_block (hZ.block w.heap.size (by omega) ⟨fun h => by have := hS _ h; omega, fun h => by have := hR _ h; omega⟩)).trans e4
    have hkb : ∀ b, w.heap.size ≤ b → b < w1.heap.size → wz.heap[b]? = w1.heap[b]? := fun b h1 h2 => hZ.block b h2 ⟨fun h => by have := hS _ h; omega, fun h => by have := hR _ h; omega⟩
    have hLz : LentAt wz (w.heap.size + 1) g ns ds := hLn.keep (fun b h1 h2 => hkb b (by omega) h2)
    have haz : Ents wz K A c ns := ha1.keep (fun b hb' => hZ.block b (hK1 b hb').1 (hK1 b hb').2) (fun _ h => h)
    go_wp2_with fail
    refine (KeptEntries_true ⟨g, 0, none⟩ ns K A c wz hLz.e haz (fun b hb' => Nat.lt_of_lt_of_le (hK1 b hb').1 hZ.size) (by omega) hdn).mono ?_
    rintro _ w8 ⟨rfl, hb8⟩
    have hT8 := hT0.below hb8
    have hO8 : OverS w8 (w.heap.size + 1) w1.heap.size g ns ds := hLn.over.keep (fun b h1 h2 => (hb8.block b (Nat.lt_of_lt_of_le h2 hZ.size)).trans (hkb b (by omega) h2))
    clear ez hkb hLz haz hT0 hZ
    go_wp2_with fail
    refine (OverEntries_any (w.heap.size + 1) w1.heap.size g ns ds w8 hO8 (by omega) hdn).mono ?_
    rintro _ w9 ⟨⟨r9, rfl⟩, h9⟩
    have hfin := hT8.fin hS hR hbw1 h9
    clear hT8 hO8 h9 hb8
    go_wp2_with fail
    go_ret
    exact ⟨rfl, es, hfin, by omega, fun x hx => .inl hx⟩
  · have hat : ∀ w', Below w1.heap.size w1 w' → Calls Tryz.prog 34 #[.pointer (some ⟨p, 0, none⟩), .int .i64 idx] w' fun x w2 => ∃ e A c b, x = .returned (.tuple #[enA e A c, .bool b]) ∧ Below w'.heap.size w' w2 ∧ Dat w2 (fun b => w'.heap.size ≤ b) A c e.data ∧ ((1 ≤ idx ∧ es[(idx - 1).toNat]? = some e ∧ b = true) ∨ (¬ (1 ≤ idx ∧ idx ≤ es.length) ∧ e = en0 ∧ b = false)) := fun w' h => by
      obtain ⟨S', R', k1, _⟩ := hT.below h
      exact AtK_any S' w' p es idx k1 (fun e he => Nat.le_trans (hde e he) (by omega))
    go_wp2_with fail
    refine (hat w1 (Below.refl _ _)).mono ?_
    rintro _ w5 ⟨x1, A1, c1, b1, rfl, hb5, hd1, hx1⟩
    have HX1 := Lib.hid hx1
    clear hx1
    simp only [enA, enV]
    have z5 := hb5.size
    have g1 : ∀ o, (w5.alloc o).cell? ⟨w.heap.size, 1, none⟩ = some (.int .i64 idx) := fun o => (World.cell?_of_block (heap_alloc_old w5 o (show w.heap.size < w5.heap.size by omega))).trans ((hb5.cell (World.block_lt_of_cell? w1 _ e1)).trans e1)
    go_wp2_with fail
    have bx5 := heap_alloc_new w5 (.cells #[.int .i64 x1.term, .int .u8 x1.kind, .int .i64 x1.ver, .int .i64 x1.srv, .bool x1.good, .slice A1 x1.data.length c1] 53)
    have ab5 : Below w5.heap.size w5 (w5.alloc (.cells #[.int .i64 x1.term, .int .u8 x1.kind, .int .i64 x1.ver, .int .i64 x1.srv, .bool x1.good, .slice A1 x1.data.length c1] 53)) := (Below.refl _ _).alloc (Nat.le_refl _) _
    have zz5 : (w5.alloc (.cells #[.int .i64 x1.term, .int .u8 x1.kind, .int .i64 x1.ver, .int .i64 x1.srv, .bool x1.good, .slice A1 x1.data.length c1] 53)).heap.size = w5.heap.size + 1 := by simp
    generalize w5.alloc (.cells #[.int .i64 x1.term, .int .u8 x1.kind, .int .i64 x1.ver, .int .i64 x1.srv, .bool x1.good, .slice A1 x1.data.length c1] 53) = V5 at *
    have hB5 : Below w1.heap.size w1 V5 := hb5.trans (ab5.mono z5)
    clear g1
    refine (hat V5 hB5).mono ?_
    rintro _ w6 ⟨x2, A2, c2, b2, rfl, hb6, hd2, hx2⟩
    obtain ⟨rfl, rfl⟩ := gave_same HX1.out hx2
    clear hx2
    simp only [enA, enV]
    have z6 := hb6.size
    have hB6' : Below w1.heap.size w1 w6 := hB5.trans (hb6.mono hB5.size)
    have g1 : ∀ o, (w6.alloc o).cell? ⟨w.heap.size, 1, none⟩ = some (.int .i64 idx) := fun o => (World.cell?_of_block (heap_alloc_old w6 o (show w.heap.size < w6.heap.size by omega))).trans ((hB6'.cell (World.block_lt_of_cell? w1 _ e1)).trans e1)
    go_wp2_with fail
    have bx6 := heap_alloc_new w6 (.cells #[.int .i64 x1.term, .int .u8 x1.kind, .int .i64 x1.ver, .int .i64 x1.srv, .bool x1.good, .slice A2 x1.data.length c2] 53)
    have ab6 : Below w6.heap.size w6 (w6.alloc (.cells #[.int .i64 x1.term, .int .u8 x1.kind, .int .i64 x1.ver, .int .i64 x1.srv, .bool x1.good, .slice A2 x1.data.length c2] 53)) := (Below.refl _ _).alloc (Nat.le_refl _) _
    have zz6 : (w6.alloc (.cells #[.int .i64 x1.term, .int .u8 x1.kind, .int .i64 x1.ver, .int .i64 x1.srv, .bool x1.good, .slice A2 x1.data.length c2] 53)).heap.size = w6.heap.size + 1 := by simp
    generalize w6.alloc (.cells #[.int .i64 x1.term, .int .u8 x1.kind, .int .i64 x1.ver, .int .i64 x1.srv, .bool x1.good, .slice A2 x1.data.length c2] 53) = V6 at *
    have hB6 : Below w1.heap.size w1 V6 := hB6'.trans (ab6.mono hB6'.size)
    clear g1
    obtain ⟨S', R', k1, k2, k3⟩ := hT.below hB6
    refine (refAt_S R' V6 q es idx k2).mono ?_
    rintro _ w7 ⟨K3, hK3, x3, A3, c3, b3, rfl, hb7, hr3, hl3, hm3, hx3⟩
    obtain ⟨rfl, rfl⟩ := gave_same HX1.out hx3
    clear hx3 k1 k2 k3
    simp only [enA, enV]
    have z7 := hb7.size
    have hB7' : Below w1.heap.size w1 w7 := hB6.trans (hb7.mono hB6.size)
    have g1 : ∀ o, (w7.alloc o).cell? ⟨w.heap.size, 1, none⟩ = some (.int .i64 idx) := fun o => (World.cell?_of_block (heap_alloc_old w7 o (show w.heap.size < w7.heap.size by omega))).trans ((hB7'.cell (World.block_lt_of_cell? w1 _ e1)).trans e1)
    go_wp2_with fail
    have bx7 := heap_alloc_new w7 (.cells #[.int .i64 x1.term, .int .u8 x1.kind, .int .i64 x1.ver, .int .i64 x1.srv, .bool x1.good, .slice A3 x1.data.length c3] 53)
    have ab7 : Below w7.heap.size w7 (w7.alloc (.cells #[.int .i64 x1.term, .int .u8 x1.kind, .int .i64 x1.ver, .int .i64 x1.srv, .bool x1.good, .slice A3 x1.data.length c3] 53)) := (Below.refl _ _).alloc (Nat.le_refl _) _
    have zz7 : (w7.alloc (.cells #[.int .i64 x1.term, .int .u8 x1.kind, .int .i64 x1.ver, .int .i64 x1.srv, .bool x1.good, .slice A3 x1.data.length c3] 53)).heap.size = w7.heap.size + 1 := by simp
    generalize w7.alloc (.cells #[.int .i64 x1.term, .int .u8 x1.kind, .int .i64 x1.ver, .int .i64 x1.srv, .bool x1.good, .slice A3 x1.data.length c3] 53) = V7 at *
    have hB7 : Below w1.heap.size w1 V7 := hB7'.trans (ab7.mono hB7'.size)
    clear g1
    refine (Term_any 0 V7 p es idx (hT.below hB7).has).mono ?_
    rintro _ w8 ⟨rfl, hb8⟩
    have hB8 : Below w1.heap.size w1 w8 := hB7.trans (hb8.mono hB7.size)
    have g1 : w8.cell? ⟨w.heap.size, 1, none⟩ = some (.int .i64 idx) := (hB8.cell (World.block_lt_of_cell? w1 _ e1)).trans e1
    go_wp2_with fail
    obtain ⟨S', R', k1, k2, k3⟩ := hT.below hB8
    refine (refTerm_S R' w8 q es idx k2).mono ?_
    rintro _ w9 ⟨rfl, hb9⟩
    clear k1 k2 k3 g1
    have hB9 : Below w1.heap.size w1 w9 := hB8.trans (hb9.mono hB8.size)
    have h79 : Below V7.heap.size V7 w9 := hb8.trans (hb9.mono hb8.size)
    have h69 : Below V6.heap.size V6 w9 := (hb7.trans (ab7.mono hb7.size)).trans (h79.mono (by omega))
    have h59 : Below V5.heap.size V5 w9 := (hb6.trans (ab6.mono hb6.size)).trans (h69.mono (by omega))
    have y1 := (h59.block _ (by omega)).trans bx5
    have y2 := (h69.block _ (by omega)).trans bx6
    have y3 := (h79.block _ (by omega)).trans bx7
    obtain ⟨a0, a1, a2, a3, a4, a5⟩ := cells6 y1
    obtain ⟨m0, m1, m2, m3, m4, m5⟩ := cells6 y3
    have n5 : w9.cell? ⟨w6.heap.size, 5, none⟩ = some (.slice A2 x1.data.length c2) := (cell_of_row w9 _ 5 _ _ _ y2).trans rfl
    have hxd : x1.data.length ≤ 1000000 := by
      rcases HX1.out with ⟨_, h2, _⟩ | ⟨_, h2, _⟩
      · exact hde x1 (List.mem_of_getElem? h2)
      · rw [h2]; exact Nat.zero_le _
    have hd1' : Dat V5 (fun b => w1.heap.size ≤ b) A1 c1 x1.data := hd1.keep (fun b _ hl => ab5.block b hl) ab5.size (fun _ h _ => h)
    have hr1 := (hd1'.keep (w' := w9) (K' := fun b => b < w9.heap.size) (fun b _ hl => h59.block b hl) h59.size (fun b _ hl => Nat.lt_of_lt_of_le hl h59.size)).rd.1
    have hsm := SameEntry_any _ _ x1 x1 A1 A3 c1 c3 w9 hr1 (hr3.keep (K' := fun b => b < w9.heap.size) (fun b hb' => h69.block b (hK3 b hb').1) (fun b hb' => Nat.lt_of_lt_of_le (hK3 b hb').1 h69.size)) (fun _ h => h) (fun _ h => h) (by omega) (by omega)
    rw [decide_eq_true (rfl : x1 = x1)] at hsm
    simp only [enA, enV] at hsm
    have qb : (b1 == b1) = true := by simp
    have qt : (termAt es idx == termAt es idx) = true := by simp
    have qh : (hasAt es idx == hasAt es idx) = true := by simp
    clear hr1 y3
    go_wp2_with fail
    refine hsm.mono ?_
    rintro _ w10 ⟨rfl, hb10⟩
    have z9 := hb10.size
    have u1 : w10.cell? ⟨w5.heap.size, 5, none⟩ = some (.slice A1 x1.data.length c1) := (hb10.cell (World.block_lt_of_cell? w9 _ a5)).trans a5
    have u2 : w10.cell? ⟨w6.heap.size, 5, none⟩ = some (.slice A2 x1.data.length c2) := (hb10.cell (World.block_lt_of_cell? w9 _ n5)).trans n5
    clear a0 a1 a2 a3 a4 a5 m0 m1 m2 m3 m4 m5 n5 hsm
    have hbz : Below w10.heap.size w10 (w10.alloc (.cells #[.slice A1 x1.data.length c1, .slice A2 x1.data.length c2] 51)) := (Below.refl _ _).alloc (Nat.le_refl _) _
    have h510 : Below V5.heap.size V5 w10 := h59.trans (hb10.mono h59.size)
    have h6a : Below w6.heap.size w6 w10 := (ab6.trans (h69.mono ab6.size)).trans (hb10.mono (by have := h69.size; have := ab6.size; omega))
    obtain ⟨SB, t1, t2, CB, f1, f2⟩ := two_datas (W := w10) hd1' (hd2.keep (K' := fun b => V5.heap.size ≤ b) (fun b _ hl => h6a.block b hl) h6a.size (fun _ h _ => h)) hB5.size h510
    have hcon : Calls Tryz.prog 37 #[.slice (some ⟨w10.heap.size, 0, none⟩) 2 2] (w10.alloc (.cells #[.slice A1 x1.data.length c1, .slice A2 x1.data.length c2] 51)) fun e w' => e = .returned (.bool true) ∧ Ag (fun b => ¬ SB b) (w10.alloc (.cells #[.slice A1 x1.data.length c1, .slice A2 x1.data.length c2] 51)) w' :=
      ApartBytes_any SB [⟨.slice A1 x1.data.length c1, t1, x1.data.length⟩, ⟨.slice A2 x1.data.length c2, t2, x1.data.length⟩] CB (some ⟨w10.heap.size, 0, none⟩) 2 _ (f1.below hbz) ⟨⟨(fun e => by cases e), fun _ => ⟨_, rfl, ⟨fun h => Nat.lt_irrefl _ (f2 _ h).2, by simp⟩, fun j u hu => news_new w10 [.slice A1 x1.data.length c1, .slice A2 x1.data.length c2] 51 j u hu⟩⟩, Nat.le_refl _, by decide⟩ (fun b hb' => Nat.lt_of_lt_of_le (f2 b hb').2 hbz.size) (by simp) (fun x hx => by simp at hx; rcases hx with rfl | rfl <;> exact hxd)
    have F2 := Lib.hid f2
    have hB10 : Below w1.heap.size w1 w10 := hB9.trans (hb10.mono hB9.size)
    clear f1 f2 hd1' hd2 hd1 hr3 hl3 hm3
    go_wp2_with fail
    refine hcon.mono ?_
    rintro _ wz ⟨rfl, hag⟩
    have hBz : Below w1.heap.size w1 (w10.alloc (.cells #[.slice A1 x1.data.length c1, .slice A2 x1.data.length c2] 51)) := hB10.trans (hbz.mono hB10.size)
    have hT0 : TwoS S R w1 p q es es wz := hT.below (hBz.trans (hag.below hBz.size (fun k hk h => by have h9 := (F2.out k h).1; omega)))
    clear hcon hag hBz hbz u1 u2 hB10 h6a h510 hb10 y1 y2 bx5 bx6 bx7 h59 h69 h79 hB9 hb9 hB8 hb8 hB7 hB7' hb7 hB6 hB6' hb6 hB5 hb5 ab5 ab6 ab7 hat
    have hZ := hT0.ag
    have ez : wz.cell? ⟨w.heap.size, 4, none⟩ = some (.slice A ns.length c) := (World.cell?_of_block (hZ.block w.heap.size (by omega) ⟨fun h => by have := hS _ h; omega, fun h => by have := hR _ h; omega⟩)).trans e4
    have hkb : ∀ b, w.heap.size ≤ b → b < w1.heap.size → wz.heap[b]? = w1.heap[b]? := fun b h1 h2 => hZ.block b h2 ⟨fun h => by have := hS _ h; omega, fun h => by have := hR _ h; omega⟩
    have hLz : LentAt wz (w.heap.size + 1) g ns ds := hLn.keep (fun b h1 h2 => hkb b (by omega) h2)
    have haz : Ents wz K A c ns := ha1.keep (fun b hb' => hZ.block b (hK1 b hb').1 (hK1 b hb').2) (fun _ h => h)
    go_wp2_with fail
    refine (KeptEntries_true ⟨g, 0, none⟩ ns K A c wz hLz.e haz (fun b hb' => Nat.lt_of_lt_of_le (hK1 b hb').1 hZ.size) (by omega) hdn).mono ?_
    rintro _ w8 ⟨rfl, hb8⟩
    have hT8 := hT0.below hb8
    have hO8 : OverS w8 (w.heap.size + 1) w1.heap.size g ns ds := hLn.over.keep (fun b h1 h2 => (hb8.block b (Nat.lt_of_lt_of_le h2 hZ.size)).trans (hkb b (by omega) h2))
    clear ez hkb hLz haz hT0 hZ
    go_wp2_with fail
    refine (OverEntries_any (w.heap.size + 1) w1.heap.size g ns ds w8 hO8 (by omega) hdn).mono ?_
    rintro _ w9 ⟨⟨r9, rfl⟩, h9⟩
    have hfin := hT8.fin hS hR hbw1 h9
    clear hT8 hO8 h9 hb8
    go_wp2_with fail
    go_ret
    exact ⟨rfl, es, hfin, by omega, fun x hx => .inl hx⟩
end Go.Proofs.YtcbomcbflmgmhaaGreat
