/- KeptEntry, KeptEntries, OverEntry, OverEntries: over this seat's program. -/
import Derived.Test.YtcbomcbflmgmhaaGreatKLent
import Derived.Deep.RegionHeld3
namespace Go.Proofs.YtcbomcbflmgmhaaGreat
open Go.RowKit
set_option linter.unusedVariables false
set_option maxRecDepth 100000

theorem LentD.rd {w : World} {e : En} {d : Option Addr × Nat} {b : Nat} (h : LentD w e d b) : Rd w (fun k => k = b) d.1 d.2 (u8s e.data) := by
  obtain ⟨rfl, hb⟩ := h
  refine ⟨(fun e => by cases e), fun _ => ⟨_, rfl, rfl, fun j u hu => ?_⟩⟩
  have hadd : (⟨b, 0, none⟩ : Addr).add j = ⟨b, j, none⟩ := by unfold Addr.add; split <;> simp_all
  rw [hadd, hb.cell, u8s_app, List.getElem?_append_left (List.getElem?_eq_some_iff.1 hu).1]
  exact hu
theorem KeptEntry_true (K : Nat → Prop) (e : En) (b : Nat) (A : Option Addr) (c : Nat) (w : World) (h : Bk w b 5 (u8s (e.data ++ marks 12))) (ha : Rd w K A c (u8s e.data)) (hK : ∀ b, K b → b < w.heap.size) (hn : e.data.length ≤ 1000000) :
    Calls Tryz.prog 26 #[enA e (some ⟨b, 0, none⟩) (e.data.length + 12), enA e A c] w fun x w' => x = .returned (.bool true) ∧ Below w.heap.size w w' := by
  have hbl := h.lt
  have hr := LentD.rd (e := e) (d := (some ⟨b, 0, none⟩, e.data.length + 12)) ⟨rfl, h⟩
  unfold enA enV
  go_enter Tryz.func26, Tryz.ntmps26
  go_wp2_with fail
  have hbe := below2 w (.cells #[.int .i64 e.term, .int .u8 e.kind, .int .i64 e.ver, .int .i64 e.srv, .bool e.good, .slice (some ⟨b, 0, none⟩) e.data.length (e.data.length + 12)] 53) (.cells #[.int .i64 e.term, .int .u8 e.kind, .int .i64 e.ver, .int .i64 e.srv, .bool e.good, .slice A e.data.length c] 53) 0
  have b0 := heap_alloc2_old w (.cells #[.int .i64 e.term, .int .u8 e.kind, .int .i64 e.ver, .int .i64 e.srv, .bool e.good, .slice (some ⟨b, 0, none⟩) e.data.length (e.data.length + 12)] 53) (.cells #[.int .i64 e.term, .int .u8 e.kind, .int .i64 e.ver, .int .i64 e.srv, .bool e.good, .slice A e.data.length c] 53)
  have b1 := heap_alloc2_new w (.cells #[.int .i64 e.term, .int .u8 e.kind, .int .i64 e.ver, .int .i64 e.srv, .bool e.good, .slice (some ⟨b, 0, none⟩) e.data.length (e.data.length + 12)] 53) (.cells #[.int .i64 e.term, .int .u8 e.kind, .int .i64 e.ver, .int .i64 e.srv, .bool e.good, .slice A e.data.length c] 53)
  have hz : ((w.alloc (.cells #[.int .i64 e.term, .int .u8 e.kind, .int .i64 e.ver, .int .i64 e.srv, .bool e.good, .slice (some ⟨b, 0, none⟩) e.data.length (e.data.length + 12)] 53)).alloc (.cells #[.int .i64 e.term, .int .u8 e.kind, .int .i64 e.ver, .int .i64 e.srv, .bool e.good, .slice A e.data.length c] 53)).heap.size = w.heap.size + 2 := by simp
  have hcon := SameEntry_any (fun k => k = b) K e e (some ⟨b, 0, none⟩) A (e.data.length + 12) c _ (hr.keep (fun k hk => hbe.block k (by omega)) (fun _ h => h)) (ha.keep (fun k hk => hbe.block k (hK k hk)) (fun _ h => h)) (fun k hk => Nat.lt_of_lt_of_le (by omega) hbe.size) (fun k hk => Nat.lt_of_lt_of_le (hK k hk) hbe.size) (by omega) (by omega)
  rw [show decide (e = e) = true from decide_eq_true rfl] at hcon
  simp only [enA, enV] at hcon
  refine hcon.mono ?_
  rintro _ w1 ⟨rfl, hb1⟩
  have hB1 : Below w.heap.size w w1 := hbe.trans (hb1.mono hbe.size)
  have b0' := (hb1.block _ (by rw [World.drewN_zero, hz]; omega)).trans b0
  have b1' := (hb1.block _ (by rw [World.drewN_zero, hz]; omega)).trans b1
  obtain ⟨_, _, _, _, _, a5⟩ := cells6 b0'
  obtain ⟨_, _, _, _, _, c5⟩ := cells6 b1'
  clear b0 b1 b0' b1' hcon hbe hb1 hz
  have hk2 := kept_any b e.data.length A c (e.data ++ marks 12) e.data w1 ((hB1.block b hbl).trans h) K (ha.keep (fun k hk => hB1.block k (hK k hk)) (fun _ h => h)) (by simp) hn hn
  rw [show decide (e.data ++ marks 12 = e.data ++ marks 12) = true from decide_eq_true rfl] at hk2
  go_wp2_with fail
  refine hk2.mono ?_
  rintro _ w2 ⟨rfl, q, rfl⟩
  go_wp2_with fail
  go_ret
  exact ⟨rfl, ⟨hB1.os, hB1.tape, hB1.output, hB1.size, hB1.block⟩⟩

/-- What is lent, from address a on. -/
structure LentE (w : World) (a : Addr) (es : List En) : Prop where
  one : ∀ i e, es[i]? = some e → ∃ b, (∀ j, j < 6 → w.cell? ((a.add (i * 6)).add j) = (enV e (some ⟨b, 0, none⟩) (e.data.length + 12))[j]?) ∧ Bk w b 5 (u8s (e.data ++ marks 12))
  more : ∀ i, i < 12 → ∀ j, j < 6 → w.cell? ((a.add ((es.length + i) * 6)).add j) = (enV (enT (8000024 + (i : Int))) none 0)[j]?
theorem LentE.below {w w' : World} {a : Addr} {es : List En} (h : LentE w a es) (hb : Below w.heap.size w w') : LentE w' a es := by
  have hk : ∀ p : Addr, ∀ u, w.cell? p = some u → w'.cell? p = some u := fun p u hu => (hb.cell (World.block_lt_of_cell? w _ hu)).trans hu
  refine ⟨fun i e hi => ?_, fun i hi j hj => ?_⟩
  · obtain ⟨b, h1, h2⟩ := h.one i e hi
    refine ⟨b, fun j hj => ?_, (hb.block b h2.lt).trans h2⟩
    have hj' : j < (enV e (some ⟨b, 0, none⟩) (e.data.length + 12)).length := by simpa [enV] using hj
    have := h1 j hj
    rw [List.getElem?_eq_getElem hj'] at this ⊢
    exact hk _ _ this
  · have hj' : j < (enV (enT (8000024 + (i : Int))) none 0).length := by simpa [enV] using hj
    have := h.more i hi j hj
    rw [List.getElem?_eq_getElem hj'] at this ⊢
    exact hk _ _ this
theorem LentAt.e {w : World} {N g : Nat} {es : List En} {ds : List (Option Addr × Nat)} (h : LentAt w N g es ds) : LentE w ⟨g, 0, none⟩ es := by
  have hl : (ds ++ nones 12).length = (es ++ markE 12).length := by simp [h.len]
  have hc : ∀ i e d, (es ++ markE 12)[i]? = some e → (ds ++ nones 12)[i]? = some d → ∀ j, j < 6 → w.cell? (((⟨g, 0, none⟩ : Addr).add (i * 6)).add j) = (enV e d.1 d.2)[j]? := by
    intro i e d hi hd j hj
    have hadd : (⟨g, 0, none⟩ : Addr).add (i * 6 + j) = ⟨g, i * 6 + j, none⟩ := by unfold Addr.add; split <;> simp_all
    rw [add_add _ _ _ rfl, hadd, h.row.cell, rowV_get _ _ i e d hi hd j hj]
  refine ⟨fun i e hi => ?_, fun i hi j hj => ?_⟩
  · have hil := (List.getElem?_eq_some_iff.1 hi).1
    have hd : i < ds.length := by rw [h.len]; exact hil
    obtain ⟨b, ⟨h1, h2⟩, _⟩ := h.data i e ds[i] hi (List.getElem?_eq_getElem hd)
    refine ⟨b, fun j hj => ?_, h2⟩
    have := hc i e ds[i] (by rw [List.getElem?_append_left hil]; exact hi) (by rw [List.getElem?_append_left hd]; exact List.getElem?_eq_getElem hd) j hj
    rw [h1] at this
    exact this
  · refine hc (es.length + i) (enT (8000024 + (i : Int))) (none, 0) ?_ ?_ j hj
    · rw [List.getElem?_append_right (by omega), show es.length + i - es.length = i by omega]
      simp [markE, hi]
    · rw [List.getElem?_append_right (by have := h.len; omega), h.len, show es.length + i - es.length = i by omega]
      unfold nones
      rw [List.getElem?_replicate, if_pos hi]
theorem enT_rd (w : World) (t : Int) (K : Nat → Prop) : Rd w K none 0 (u8s (enT t).data) := Rd.none_ _ _ _ _ (fun _ => rfl)
set_option linter.unusedSimpArgs false in
set_option maxHeartbeats 4000000 in
theorem KeptEntries_true (a : Addr) (es : List En) (K : Nat → Prop) (A : Option Addr) (c : Nat) (w : World) (h : LentE w a es) (ha : Ents w K A c es) (hK : ∀ b, K b → b < w.heap.size) (hn : es.length ≤ 1000000) (hd : ∀ e ∈ es, e.data.length ≤ 1000000) :
    Calls Tryz.prog 10 #[.slice (some a) es.length (es.length + 12), .slice A es.length c] w fun x w' => x = .returned (.bool true) ∧ Below w.heap.size w w' := by
  have hne : ((es.length : Int) != (es.length : Int)) = false := by simp
  go_enter Tryz.func10, Tryz.ntmps10
  go_wp2_with fail
  go_loopw [6] (fun i wr => ∃ k : Nat, k ≤ es.length + 12 ∧ i = .int .i64 k ∧ Below w.heap.size w wr) (fun i _ => es.length + 12 - (intOf i).toNat)
  case atStart => exact ⟨0, Nat.zero_le _, rfl, Below.refl _ _⟩
  case round =>
    obtain ⟨k, hk, rfl, hb⟩ := hrel
    have hL := h.below hb
    have haw := ha.keep (w' := wr) (K' := K) (fun b hb' => hb.block b (hK b hb')) (fun _ h => h)
    have hzr := hb.size
    by_cases hlt : k < es.length
    · have d1 : decide ((k : Int) < (es.length : Int) + 12) = true := decide_eq_true (by omega)
      have d2 : decide (k < es.length) = true := decide_eq_true hlt
      have d3 : decide (es.length ≤ k) = false := decide_eq_false (by omega)
      have i1 : (0 : Int) ≤ (k : Int) := by omega
      have i2 : (k : Int) < (es.length : Int) + 12 := by omega
      have i3 : (k : Int) < (es.length : Int) := by omega
      obtain ⟨a', x, D, d, rfl, ka, hx, ca, ra, la, ma⟩ := haw.at_ hlt
      obtain ⟨b, cb, hbk⟩ := hL.one k x hx.out
      obtain ⟨a0, a1, a2, a3, a4, a5⟩ := en6 ca
      obtain ⟨b0, b1, b2, b3, b4, b5⟩ := en6 cb
      clear ca cb
      have hkept : ∀ w', ((w'.cell? (a.add (k * 6)) = some (.int .i64 x.term) ∧ w'.cell? ⟨(a.add (k * 6)).block, (a.add (k * 6)).off + 1, none⟩ = some (.int .u8 x.kind) ∧ w'.cell? ⟨(a.add (k * 6)).block, (a.add (k * 6)).off + 2, none⟩ = some (.int .i64 x.ver) ∧ w'.cell? ⟨(a.add (k * 6)).block, (a.add (k * 6)).off + 3, none⟩ = some (.int .i64 x.srv) ∧ w'.cell? ⟨(a.add (k * 6)).block, (a.add (k * 6)).off + 4, none⟩ = some (.bool x.good) ∧ w'.cell? ⟨(a.add (k * 6)).block, (a.add (k * 6)).off + 5, none⟩ = some (.slice (some ⟨b, 0, none⟩) x.data.length (x.data.length + 12)) ∧ w'.cell? (a'.add (k * 6)) = some (.int .i64 x.term) ∧ w'.cell? ⟨(a'.add (k * 6)).block, (a'.add (k * 6)).off + 1, none⟩ = some (.int .u8 x.kind) ∧ w'.cell? ⟨(a'.add (k * 6)).block, (a'.add (k * 6)).off + 2, none⟩ = some (.int .i64 x.ver) ∧ w'.cell? ⟨(a'.add (k * 6)).block, (a'.add (k * 6)).off + 3, none⟩ = some (.int .i64 x.srv) ∧ w'.cell? ⟨(a'.add (k * 6)).block, (a'.add (k * 6)).off + 4, none⟩ = some (.bool x.good) ∧ w'.cell? ⟨(a'.add (k * 6)).block, (a'.add (k * 6)).off + 5, none⟩ = some (.slice D x.data.length d)) ∧ Below wr.heap.size wr w') → Calls Tryz.prog 26 #[.agg #[.int .i64 x.term, .int .u8 x.kind, .int .i64 x.ver, .int .i64 x.srv, .bool x.good, .slice (some ⟨b, 0, none⟩) x.data.length (x.data.length + 12)], .agg #[.int .i64 x.term, .int .u8 x.kind, .int .i64 x.ver, .int .i64 x.srv, .bool x.good, .slice D x.data.length d]] w' fun y w2 => y = .returned (.bool true) ∧ Below wr.heap.size wr w2 := fun w' h => (KeptEntry_true K x b D d w' ((h.2.block b hbk.lt).trans hbk) (ra.keep (fun b hb' => h.2.block b (Nat.lt_of_lt_of_le (hK b hb') hzr)) (fun _ h => h)) (fun b hb' => Nat.lt_of_lt_of_le (Nat.lt_of_lt_of_le (hK b hb') hzr) h.2.size) (hd x (List.mem_of_getElem? hx.out))).mono fun y w2 ⟨h1, h2⟩ => ⟨h1, h.2.trans (h2.mono h.2.size)⟩
      have keepS : ∀ w', Below wr.heap.size wr w' → ((w'.cell? (a.add (k * 6)) = some (.int .i64 x.term) ∧ w'.cell? ⟨(a.add (k * 6)).block, (a.add (k * 6)).off + 1, none⟩ = some (.int .u8 x.kind) ∧ w'.cell? ⟨(a.add (k * 6)).block, (a.add (k * 6)).off + 2, none⟩ = some (.int .i64 x.ver) ∧ w'.cell? ⟨(a.add (k * 6)).block, (a.add (k * 6)).off + 3, none⟩ = some (.int .i64 x.srv) ∧ w'.cell? ⟨(a.add (k * 6)).block, (a.add (k * 6)).off + 4, none⟩ = some (.bool x.good) ∧ w'.cell? ⟨(a.add (k * 6)).block, (a.add (k * 6)).off + 5, none⟩ = some (.slice (some ⟨b, 0, none⟩) x.data.length (x.data.length + 12)) ∧ w'.cell? (a'.add (k * 6)) = some (.int .i64 x.term) ∧ w'.cell? ⟨(a'.add (k * 6)).block, (a'.add (k * 6)).off + 1, none⟩ = some (.int .u8 x.kind) ∧ w'.cell? ⟨(a'.add (k * 6)).block, (a'.add (k * 6)).off + 2, none⟩ = some (.int .i64 x.ver) ∧ w'.cell? ⟨(a'.add (k * 6)).block, (a'.add (k * 6)).off + 3, none⟩ = some (.int .i64 x.srv) ∧ w'.cell? ⟨(a'.add (k * 6)).block, (a'.add (k * 6)).off + 4, none⟩ = some (.bool x.good) ∧ w'.cell? ⟨(a'.add (k * 6)).block, (a'.add (k * 6)).off + 5, none⟩ = some (.slice D x.data.length d)) ∧ Below wr.heap.size wr w') := by
        intro w' hb'
        have hkk : ∀ (p : Addr) u, wr.cell? p = some u → w'.cell? p = some u := fun p u hu => (hb'.cell (World.block_lt_of_cell? wr _ hu)).trans hu
        exact ⟨⟨hkk _ _ b0, hkk _ _ b1, hkk _ _ b2, hkk _ _ b3, hkk _ _ b4, hkk _ _ b5, hkk _ _ a0, hkk _ _ a1, hkk _ _ a2, hkk _ _ a3, hkk _ _ a4, hkk _ _ a5⟩, hb'⟩
      clear hL haw
      go_wp2_with fail
      refine wp_region_held_drew (S := (fun w' => (w'.cell? (a.add (k * 6)) = some (.int .i64 x.term) ∧ w'.cell? ⟨(a.add (k * 6)).block, (a.add (k * 6)).off + 1, none⟩ = some (.int .u8 x.kind) ∧ w'.cell? ⟨(a.add (k * 6)).block, (a.add (k * 6)).off + 2, none⟩ = some (.int .i64 x.ver) ∧ w'.cell? ⟨(a.add (k * 6)).block, (a.add (k * 6)).off + 3, none⟩ = some (.int .i64 x.srv) ∧ w'.cell? ⟨(a.add (k * 6)).block, (a.add (k * 6)).off + 4, none⟩ = some (.bool x.good) ∧ w'.cell? ⟨(a.add (k * 6)).block, (a.add (k * 6)).off + 5, none⟩ = some (.slice (some ⟨b, 0, none⟩) x.data.length (x.data.length + 12)) ∧ w'.cell? (a'.add (k * 6)) = some (.int .i64 x.term) ∧ w'.cell? ⟨(a'.add (k * 6)).block, (a'.add (k * 6)).off + 1, none⟩ = some (.int .u8 x.kind) ∧ w'.cell? ⟨(a'.add (k * 6)).block, (a'.add (k * 6)).off + 2, none⟩ = some (.int .i64 x.ver) ∧ w'.cell? ⟨(a'.add (k * 6)).block, (a'.add (k * 6)).off + 3, none⟩ = some (.int .i64 x.srv) ∧ w'.cell? ⟨(a'.add (k * 6)).block, (a'.add (k * 6)).off + 4, none⟩ = some (.bool x.good) ∧ w'.cell? ⟨(a'.add (k * 6)).block, (a'.add (k * 6)).off + 5, none⟩ = some (.slice D x.data.length d)) ∧ Below wr.heap.size wr w')) (by kernel_rfl) (keepS _ (Below.refl _ _).drew) (fun hS => ?_)
      refine wpAnyH_take (i := 0) (v := ?_) rfl (by kernel_rfl) (by kernel_rfl) (by kernel_rfl) (fun _ _ _ h => h) (Or.inl ⟨by rfl, ?_⟩) hS ?_
      rotate_left 1
      · intro w' hSw
        go_simp <;> with_reducible rfl
      try simp only [List.getElem_toArray, List.getElem_cons_zero, List.getElem_cons_succ, Act.put, List.setIfInBounds_toArray, List.set_cons_zero, List.set_cons_succ]
      refine wpAnyH_take (i := 1) (v := ?_) rfl (by kernel_rfl) (by kernel_rfl) (by kernel_rfl) (fun _ _ _ h => h) (Or.inl ⟨by rfl, ?_⟩) hS ?_
      rotate_left 1
      · intro w' hSw
        go_simp <;> with_reducible rfl
      try simp only [List.getElem_toArray, List.getElem_cons_zero, List.getElem_cons_succ, Act.put, List.setIfInBounds_toArray, List.set_cons_zero, List.set_cons_succ]
      refine wpAnyH_take (i := 2) (v := ?_) rfl (by kernel_rfl) (by kernel_rfl) (by kernel_rfl) (fun _ _ _ h => h) (Or.inl ⟨by rfl, ?_⟩) hS ?_
      rotate_left 1
      · intro w' hSw
        go_simp <;> with_reducible rfl
      try simp only [List.getElem_toArray, List.getElem_cons_zero, List.getElem_cons_succ, Act.put, List.setIfInBounds_toArray, List.set_cons_zero, List.set_cons_succ]
      refine wpAnyH_take (i := 3) (v := ?_) rfl (by kernel_rfl) (by kernel_rfl) (by kernel_rfl) (fun _ _ _ h => h) (Or.inl ⟨by rfl, ?_⟩) hS ?_
      rotate_left 1
      · intro w' hSw
        go_simp <;> with_reducible rfl
      try simp only [List.getElem_toArray, List.getElem_cons_zero, List.getElem_cons_succ, Act.put, List.setIfInBounds_toArray, List.set_cons_zero, List.set_cons_succ]
      refine wpAnyH_take (i := 4) (v := ?_) rfl (by kernel_rfl) (by kernel_rfl) (by kernel_rfl) (fun _ _ _ h => h) (Or.inl ⟨by rfl, ?_⟩) hS ?_
      rotate_left 1
      · intro w' hSw
        go_simp <;> with_reducible rfl
      try simp only [List.getElem_toArray, List.getElem_cons_zero, List.getElem_cons_succ, Act.put, List.setIfInBounds_toArray, List.set_cons_zero, List.set_cons_succ]
      refine wpAnyH_take (i := 5) (v := ?_) rfl (by kernel_rfl) (by kernel_rfl) (by kernel_rfl) (fun _ _ _ h => h) (Or.inl ⟨by go_simp, ?_⟩) hS ?_
      rotate_left 1
      · intro w' hSw
        go_simp <;> with_reducible rfl
      try simp only [List.getElem_toArray, List.getElem_cons_zero, List.getElem_cons_succ, Act.put, List.setIfInBounds_toArray, List.set_cons_zero, List.set_cons_succ]
      refine wpAnyH_take (i := 6) (v := ?_) rfl (by kernel_rfl) (by kernel_rfl) (by kernel_rfl) (fun _ _ _ h => h) (Or.inl ⟨by go_simp, ?_⟩) hS ?_
      rotate_left 1
      · intro w' hSw
        go_simp <;> with_reducible rfl
      try simp only [List.getElem_toArray, List.getElem_cons_zero, List.getElem_cons_succ, Act.put, List.setIfInBounds_toArray, List.set_cons_zero, List.set_cons_succ]
      refine wpAnyH_take (i := 7) (v := ?_) rfl (by kernel_rfl) (by kernel_rfl) (by kernel_rfl) (fun _ _ _ h => h) (Or.inl ⟨by go_simp, ?_⟩) hS ?_
      rotate_left 1
      · intro w' hSw
        go_simp <;> with_reducible rfl
      try simp only [List.getElem_toArray, List.getElem_cons_zero, List.getElem_cons_succ, Act.put, List.setIfInBounds_toArray, List.set_cons_zero, List.set_cons_succ]
      refine wpAnyH_take (i := 8) (v := ?_) rfl (by kernel_rfl) (by kernel_rfl) (by kernel_rfl) (fun _ _ _ h => h) (Or.inl ⟨by go_simp, ?_⟩) hS ?_
      rotate_left 1
      · intro w' hSw
        go_simp <;> with_reducible rfl
      try simp only [List.getElem_toArray, List.getElem_cons_zero, List.getElem_cons_succ, Act.put, List.setIfInBounds_toArray, List.set_cons_zero, List.set_cons_succ]
      refine wpAnyH_take (i := 9) (v := ?_) rfl (by kernel_rfl) (by kernel_rfl) (by kernel_rfl) (fun _ _ _ h => h) (Or.inl ⟨by go_simp, ?_⟩) hS ?_
      rotate_left 1
      · intro w' hSw
        go_simp <;> with_reducible rfl
      try simp only [List.getElem_toArray, List.getElem_cons_zero, List.getElem_cons_succ, Act.put, List.setIfInBounds_toArray, List.set_cons_zero, List.set_cons_succ]
      refine wpAnyH_take (i := 10) (v := ?_) rfl (by kernel_rfl) (by kernel_rfl) (by kernel_rfl) (fun _ _ _ h => h) (Or.inl ⟨by go_simp, ?_⟩) hS ?_
      rotate_left 1
      · intro w' hSw
        go_simp <;> with_reducible rfl
      try simp only [List.getElem_toArray, List.getElem_cons_zero, List.getElem_cons_succ, Act.put, List.setIfInBounds_toArray, List.set_cons_zero, List.set_cons_succ]
      refine wpAnyH_take (i := 11) (v := ?_) rfl (by kernel_rfl) (by kernel_rfl) (by kernel_rfl) (fun _ _ _ h => h) (Or.inl ⟨by go_simp, ?_⟩) hS ?_
      rotate_left 1
      · intro w' hSw
        go_simp <;> with_reducible rfl
      try simp only [List.getElem_toArray, List.getElem_cons_zero, List.getElem_cons_succ, Act.put, List.setIfInBounds_toArray, List.set_cons_zero, List.set_cons_succ]
      refine wpAnyH_take (i := 12) (v := ?_) rfl (by kernel_rfl) (by kernel_rfl) (by kernel_rfl) (fun _ _ _ h => h) (Or.inl ⟨by go_simp, ?_⟩) hS ?_
      rotate_left 1
      · intro w' hSw
        go_simp <;> with_reducible rfl
      try simp only [List.getElem_toArray, List.getElem_cons_zero, List.getElem_cons_succ, Act.put, List.setIfInBounds_toArray, List.set_cons_zero, List.set_cons_succ]
      refine wpAnyH_ready (rs := [13]) (by kernel_rfl) (by simp) (AllReadyH.cons rfl (fun K hK => ?_) AllReadyH.nil)
      go_simp
      refine (hkept _ hS).mono ?_
      rintro _ w2 ⟨rfl, hbx⟩
      go_simp
      refine hK.out _ _ (keepS _ hbx) (fun hS => ?_)
      clear hK K
      try simp only [List.getElem_toArray, List.getElem_cons_zero, List.getElem_cons_succ, Act.put, List.setIfInBounds_toArray, List.set_cons_zero, List.set_cons_succ]
      refine wpAnyH_take (i := 14) (v := ?_) rfl (by kernel_rfl) (by kernel_rfl) (by kernel_rfl) (fun _ _ _ h => h) (Or.inl ⟨by go_simp, ?_⟩) hS ?_
      rotate_left 1
      · intro w' hSw
        go_simp <;> with_reducible rfl
      try simp only [List.getElem_toArray, List.getElem_cons_zero, List.getElem_cons_succ, Act.put, List.setIfInBounds_toArray, List.set_cons_zero, List.set_cons_succ]
      refine wpAnyH_take (i := 15) (v := ?_) rfl (by kernel_rfl) (by kernel_rfl) (by kernel_rfl) (fun _ _ _ h => h) (Or.inl ⟨by rfl, ?_⟩) hS ?_
      rotate_left 1
      · intro w' hSw
        go_simp <;> with_reducible rfl
      try simp only [List.getElem_toArray, List.getElem_cons_zero, List.getElem_cons_succ, Act.put, List.setIfInBounds_toArray, List.set_cons_zero, List.set_cons_succ]
      refine wpAnyH_take (i := 16) (v := ?_) rfl (by kernel_rfl) (by kernel_rfl) (by kernel_rfl) (fun _ _ _ h => h) (Or.inl ⟨by rfl, ?_⟩) hS ?_
      rotate_left 1
      · intro w' hSw
        go_simp <;> with_reducible rfl
      try simp only [List.getElem_toArray, List.getElem_cons_zero, List.getElem_cons_succ, Act.put, List.setIfInBounds_toArray, List.set_cons_zero, List.set_cons_succ]
      refine wpAnyH_take (i := 17) (v := ?_) rfl (by kernel_rfl) (by kernel_rfl) (by kernel_rfl) (fun _ _ _ h => h) (Or.inl ⟨by go_simp, ?_⟩) hS ?_
      rotate_left 1
      · intro w' hSw
        go_simp <;> with_reducible rfl
      try simp only [List.getElem_toArray, List.getElem_cons_zero, List.getElem_cons_succ, Act.put, List.setIfInBounds_toArray, List.set_cons_zero, List.set_cons_succ]
      refine wpAnyH_take (i := 18) (v := ?_) rfl (by kernel_rfl) (by kernel_rfl) (by kernel_rfl) (fun _ _ _ h => h) (Or.inl ⟨by go_simp, ?_⟩) hS ?_
      rotate_left 1
      · intro w' hSw
        go_simp <;> with_reducible rfl
      try simp only [List.getElem_toArray, List.getElem_cons_zero, List.getElem_cons_succ, Act.put, List.setIfInBounds_toArray, List.set_cons_zero, List.set_cons_succ]
      refine wpAnyH_take (i := 19) (v := ?_) rfl (by kernel_rfl) (by kernel_rfl) (by kernel_rfl) (fun _ _ _ h => h) (Or.inl ⟨by go_simp, ?_⟩) hS ?_
      rotate_left 1
      · intro w' hSw
        go_simp <;> with_reducible rfl
      try simp only [List.getElem_toArray, List.getElem_cons_zero, List.getElem_cons_succ, Act.put, List.setIfInBounds_toArray, List.set_cons_zero, List.set_cons_succ]
      refine wpAnyH_take (i := 20) (v := ?_) rfl (by kernel_rfl) (by kernel_rfl) (by kernel_rfl) (fun _ _ _ h => h) (Or.inl ⟨by go_simp, ?_⟩) hS ?_
      rotate_left 1
      · intro w' hSw
        go_simp <;> with_reducible rfl
      try simp only [List.getElem_toArray, List.getElem_cons_zero, List.getElem_cons_succ, Act.put, List.setIfInBounds_toArray, List.set_cons_zero, List.set_cons_succ]
      refine wpAnyH_take (i := 21) (v := ?_) rfl (by kernel_rfl) (by kernel_rfl) (by kernel_rfl) (fun _ _ _ h => h) (Or.inl ⟨by go_simp, ?_⟩) hS ?_
      rotate_left 1
      · intro w' hSw
        go_simp <;> with_reducible rfl
      try simp only [List.getElem_toArray, List.getElem_cons_zero, List.getElem_cons_succ, Act.put, List.setIfInBounds_toArray, List.set_cons_zero, List.set_cons_succ]
      refine wpAnyH_take (i := 22) (v := undef) rfl (by kernel_rfl) (by kernel_rfl) (by kernel_rfl) (fun _ _ _ h => h) (Or.inr ⟨by go_simp, rfl⟩) hS ?_
      try simp only [List.getElem_toArray, List.getElem_cons_zero, List.getElem_cons_succ, Act.put, List.setIfInBounds_toArray, List.set_cons_zero, List.set_cons_succ]
      refine wpAnyH_take (i := 23) (v := undef) rfl (by kernel_rfl) (by kernel_rfl) (by kernel_rfl) (fun _ _ _ h => h) (Or.inr ⟨by go_simp, rfl⟩) hS ?_
      try simp only [List.getElem_toArray, List.getElem_cons_zero, List.getElem_cons_succ, Act.put, List.setIfInBounds_toArray, List.set_cons_zero, List.set_cons_succ]
      refine wpAnyH_take (i := 24) (v := undef) rfl (by kernel_rfl) (by kernel_rfl) (by kernel_rfl) (fun _ _ _ h => h) (Or.inr ⟨by go_simp, rfl⟩) hS ?_
      try simp only [List.getElem_toArray, List.getElem_cons_zero, List.getElem_cons_succ, Act.put, List.setIfInBounds_toArray, List.set_cons_zero, List.set_cons_succ]
      refine wpAnyH_take (i := 25) (v := undef) rfl (by kernel_rfl) (by kernel_rfl) (by kernel_rfl) (fun _ _ _ h => h) (Or.inr ⟨by go_simp, rfl⟩) hS ?_
      try simp only [List.getElem_toArray, List.getElem_cons_zero, List.getElem_cons_succ, Act.put, List.setIfInBounds_toArray, List.set_cons_zero, List.set_cons_succ]
      refine wpAnyH_take (i := 26) (v := undef) rfl (by kernel_rfl) (by kernel_rfl) (by kernel_rfl) (fun _ _ _ h => h) (Or.inr ⟨by go_simp, rfl⟩) hS ?_
      try simp only [List.getElem_toArray, List.getElem_cons_zero, List.getElem_cons_succ, Act.put, List.setIfInBounds_toArray, List.set_cons_zero, List.set_cons_succ]
      refine wpAnyH_take (i := 27) (v := undef) rfl (by kernel_rfl) (by kernel_rfl) (by kernel_rfl) (fun _ _ _ h => h) (Or.inr ⟨by go_simp, rfl⟩) hS ?_
      try simp only [List.getElem_toArray, List.getElem_cons_zero, List.getElem_cons_succ, Act.put, List.setIfInBounds_toArray, List.set_cons_zero, List.set_cons_succ]
      refine wpAnyH_take (i := 28) (v := undef) rfl (by kernel_rfl) (by kernel_rfl) (by kernel_rfl) (fun _ _ _ h => h) (Or.inr ⟨by go_simp, rfl⟩) hS ?_
      try simp only [List.getElem_toArray, List.getElem_cons_zero, List.getElem_cons_succ, Act.put, List.setIfInBounds_toArray, List.set_cons_zero, List.set_cons_succ]
      refine wpAnyH_take (i := 29) (v := undef) rfl (by kernel_rfl) (by kernel_rfl) (by kernel_rfl) (fun _ _ _ h => h) (Or.inr ⟨by go_simp, rfl⟩) hS ?_
      try simp only [List.getElem_toArray, List.getElem_cons_zero, List.getElem_cons_succ, Act.put, List.setIfInBounds_toArray, List.set_cons_zero, List.set_cons_succ]
      refine wpAnyH_take (i := 30) (v := undef) rfl (by kernel_rfl) (by kernel_rfl) (by kernel_rfl) (fun _ _ _ h => h) (Or.inr ⟨by go_simp, rfl⟩) hS ?_
      try simp only [List.getElem_toArray, List.getElem_cons_zero, List.getElem_cons_succ, Act.put, List.setIfInBounds_toArray, List.set_cons_zero, List.set_cons_succ]
      refine wpAnyH_take (i := 31) (v := undef) rfl (by kernel_rfl) (by kernel_rfl) (by kernel_rfl) (fun _ _ _ h => h) (Or.inr ⟨by go_simp, rfl⟩) hS ?_
      try simp only [List.getElem_toArray, List.getElem_cons_zero, List.getElem_cons_succ, Act.put, List.setIfInBounds_toArray, List.set_cons_zero, List.set_cons_succ]
      refine wpAnyH_take (i := 32) (v := undef) rfl (by kernel_rfl) (by kernel_rfl) (by kernel_rfl) (fun _ _ _ h => h) (Or.inr ⟨by go_simp, rfl⟩) hS ?_
      try simp only [List.getElem_toArray, List.getElem_cons_zero, List.getElem_cons_succ, Act.put, List.setIfInBounds_toArray, List.set_cons_zero, List.set_cons_succ]
      refine wpAnyH_take (i := 33) (v := ?_) rfl (by kernel_rfl) (by kernel_rfl) (by kernel_rfl) (fun _ _ _ h => h) (Or.inl ⟨by go_simp, ?_⟩) hS ?_
      rotate_left 1
      · intro w' hSw
        go_simp <;> with_reducible rfl
      try simp only [List.getElem_toArray, List.getElem_cons_zero, List.getElem_cons_succ, Act.put, List.setIfInBounds_toArray, List.set_cons_zero, List.set_cons_succ]
      refine wpAnyH_take (i := 34) (v := ?_) rfl (by kernel_rfl) (by kernel_rfl) (by kernel_rfl) (fun _ _ _ h => h) (Or.inl ⟨by rfl, ?_⟩) hS ?_
      rotate_left 1
      · intro w' hSw
        go_simp <;> with_reducible rfl
      try simp only [List.getElem_toArray, List.getElem_cons_zero, List.getElem_cons_succ, Act.put, List.setIfInBounds_toArray, List.set_cons_zero, List.set_cons_succ]
      with_reducible (refine wpAnyH_done (by kernel_rfl) ?_ _)
      clear a0 a1 a2 a3 a4 a5 b0 b1 b2 b3 b4 b5 hkept keepS hS
      have hB2 : Below w.heap.size w w2 := hb.trans (hbx.mono hzr)
      clear hbx hb
      go_wp2_with fail
      go_roundw
      case rel => exact ⟨k + 1, by omega, by go_num, hB2⟩
      case measure => simp [intOf]; omega
    · by_cases hlt2 : k < es.length + 12
      · have d1 : decide ((k : Int) < (es.length : Int) + 12) = true := decide_eq_true (by omega)
        have d2 : decide (k < es.length) = false := decide_eq_false hlt
        have d3 : decide (es.length ≤ k) = true := decide_eq_true (by omega)
        have i1 : (0 : Int) ≤ (k : Int) := by omega
        have i2 : (k : Int) < (es.length : Int) + 12 := by omega
        have cb := hL.more (k - es.length) (by omega)
        rw [show es.length + (k - es.length) = k by omega, show ((k - es.length : Nat) : Int) = (k : Int) - es.length by omega] at cb
        obtain ⟨mk, hmk⟩ : ∃ mk : Int, mk = 8000024 + ((k : Int) - es.length) := ⟨_, rfl⟩
        rw [← hmk] at cb
        obtain ⟨b0, b1, b2, b3, b4, b5⟩ := en6 cb
        simp only [enT] at b0 b1 b2 b3 b4 b5
        have b5' : wr.cell? ⟨(a.add (k * 6)).block, (a.add (k * 6)).off + 5, none⟩ = some (.slice none 0 0) := b5
        have hmark : ∀ w', ((w'.cell? (a.add (k * 6)) = some (.int .i64 mk) ∧ w'.cell? ⟨(a.add (k * 6)).block, (a.add (k * 6)).off + 1, none⟩ = some (.int .u8 0) ∧ w'.cell? ⟨(a.add (k * 6)).block, (a.add (k * 6)).off + 2, none⟩ = some (.int .i64 0) ∧ w'.cell? ⟨(a.add (k * 6)).block, (a.add (k * 6)).off + 3, none⟩ = some (.int .i64 0) ∧ w'.cell? ⟨(a.add (k * 6)).block, (a.add (k * 6)).off + 4, none⟩ = some (.bool false) ∧ w'.cell? ⟨(a.add (k * 6)).block, (a.add (k * 6)).off + 5, none⟩ = some (.slice none 0 0)) ∧ Below wr.heap.size wr w') → Calls Tryz.prog 23 #[.int .i64 1, .int .i64 ((k : Int) - es.length)] w' fun x w2 => x = .returned (.agg #[.int .i64 mk, .int .u8 0, .int .i64 0, .int .i64 0, .bool false, .slice none 0 0]) ∧ Below wr.heap.size wr w2 := fun w' h => (markEntry_any 1 _ w' (by omega) (by omega) (by omega) (by omega)).mono fun x w2 ⟨h1, h2⟩ => ⟨by rw [h1, hmk]; rfl, h.2.trans (h2.mono h.2.size)⟩
        have hsame : ∀ w', ((w'.cell? (a.add (k * 6)) = some (.int .i64 mk) ∧ w'.cell? ⟨(a.add (k * 6)).block, (a.add (k * 6)).off + 1, none⟩ = some (.int .u8 0) ∧ w'.cell? ⟨(a.add (k * 6)).block, (a.add (k * 6)).off + 2, none⟩ = some (.int .i64 0) ∧ w'.cell? ⟨(a.add (k * 6)).block, (a.add (k * 6)).off + 3, none⟩ = some (.int .i64 0) ∧ w'.cell? ⟨(a.add (k * 6)).block, (a.add (k * 6)).off + 4, none⟩ = some (.bool false) ∧ w'.cell? ⟨(a.add (k * 6)).block, (a.add (k * 6)).off + 5, none⟩ = some (.slice none 0 0)) ∧ Below wr.heap.size wr w') → Calls Tryz.prog 27 #[.agg #[.int .i64 mk, .int .u8 0, .int .i64 0, .int .i64 0, .bool false, .slice none 0 0], .agg #[.int .i64 mk, .int .u8 0, .int .i64 0, .int .i64 0, .bool false, .slice none 0 0]] w' fun x w2 => x = .returned (.bool true) ∧ Below wr.heap.size wr w2 := fun w' h => (SameEntry_any (fun _ => False) (fun _ => False) (enT mk) (enT mk) none none 0 0 w' (enT_rd _ _ _) (enT_rd _ _ _) (fun b hb => hb.elim) (fun b hb => hb.elim) (by simp [enT]) (by simp [enT])).mono fun x w2 ⟨h1, h2⟩ => ⟨by rw [h1, show decide (enT mk = enT mk) = true from decide_eq_true rfl], h.2.trans (h2.mono h.2.size)⟩
        have keepS : ∀ w', Below wr.heap.size wr w' → ((w'.cell? (a.add (k * 6)) = some (.int .i64 mk) ∧ w'.cell? ⟨(a.add (k * 6)).block, (a.add (k * 6)).off + 1, none⟩ = some (.int .u8 0) ∧ w'.cell? ⟨(a.add (k * 6)).block, (a.add (k * 6)).off + 2, none⟩ = some (.int .i64 0) ∧ w'.cell? ⟨(a.add (k * 6)).block, (a.add (k * 6)).off + 3, none⟩ = some (.int .i64 0) ∧ w'.cell? ⟨(a.add (k * 6)).block, (a.add (k * 6)).off + 4, none⟩ = some (.bool false) ∧ w'.cell? ⟨(a.add (k * 6)).block, (a.add (k * 6)).off + 5, none⟩ = some (.slice none 0 0)) ∧ Below wr.heap.size wr w') := by
          intro w' hb'
          have hkk : ∀ (p : Addr) u, wr.cell? p = some u → w'.cell? p = some u := fun p u hu => (hb'.cell (World.block_lt_of_cell? wr _ hu)).trans hu
          exact ⟨⟨hkk _ _ b0, hkk _ _ b1, hkk _ _ b2, hkk _ _ b3, hkk _ _ b4, hkk _ _ b5'⟩, hb'⟩
        have v1 : IntKind.i64.wrap ((k : Int) - es.length) = (k : Int) - es.length := IntWalk.i64_in _ (by omega)
        clear cb hmk hL haw b5
        go_wp2_with fail
        refine wp_region_held_drew (S := (fun w' => (w'.cell? (a.add (k * 6)) = some (.int .i64 mk) ∧ w'.cell? ⟨(a.add (k * 6)).block, (a.add (k * 6)).off + 1, none⟩ = some (.int .u8 0) ∧ w'.cell? ⟨(a.add (k * 6)).block, (a.add (k * 6)).off + 2, none⟩ = some (.int .i64 0) ∧ w'.cell? ⟨(a.add (k * 6)).block, (a.add (k * 6)).off + 3, none⟩ = some (.int .i64 0) ∧ w'.cell? ⟨(a.add (k * 6)).block, (a.add (k * 6)).off + 4, none⟩ = some (.bool false) ∧ w'.cell? ⟨(a.add (k * 6)).block, (a.add (k * 6)).off + 5, none⟩ = some (.slice none 0 0)) ∧ Below wr.heap.size wr w')) (by kernel_rfl) (keepS _ (Below.refl _ _).drew) (fun hS => ?_)
        refine wpAnyH_take (i := 0) (v := ?_) rfl (by kernel_rfl) (by kernel_rfl) (by kernel_rfl) (fun _ _ _ h => h) (Or.inl ⟨by rfl, ?_⟩) hS ?_
        rotate_left 1
        · intro w' hSw
          go_simp <;> with_reducible rfl
        try simp only [List.getElem_toArray, List.getElem_cons_zero, List.getElem_cons_succ, Act.put, List.setIfInBounds_toArray, List.set_cons_zero, List.set_cons_succ]
        refine wpAnyH_take (i := 1) (v := ?_) rfl (by kernel_rfl) (by kernel_rfl) (by kernel_rfl) (fun _ _ _ h => h) (Or.inl ⟨by rfl, ?_⟩) hS ?_
        rotate_left 1
        · intro w' hSw
          go_simp <;> with_reducible rfl
        try simp only [List.getElem_toArray, List.getElem_cons_zero, List.getElem_cons_succ, Act.put, List.setIfInBounds_toArray, List.set_cons_zero, List.set_cons_succ]
        refine wpAnyH_take (i := 2) (v := ?_) rfl (by kernel_rfl) (by kernel_rfl) (by kernel_rfl) (fun _ _ _ h => h) (Or.inl ⟨by rfl, ?_⟩) hS ?_
        rotate_left 1
        · intro w' hSw
          go_simp <;> with_reducible rfl
        try simp only [List.getElem_toArray, List.getElem_cons_zero, List.getElem_cons_succ, Act.put, List.setIfInBounds_toArray, List.set_cons_zero, List.set_cons_succ]
        refine wpAnyH_take (i := 3) (v := ?_) rfl (by kernel_rfl) (by kernel_rfl) (by kernel_rfl) (fun _ _ _ h => h) (Or.inl ⟨by rfl, ?_⟩) hS ?_
        rotate_left 1
        · intro w' hSw
          go_simp <;> with_reducible rfl
        try simp only [List.getElem_toArray, List.getElem_cons_zero, List.getElem_cons_succ, Act.put, List.setIfInBounds_toArray, List.set_cons_zero, List.set_cons_succ]
        refine wpAnyH_take (i := 4) (v := ?_) rfl (by kernel_rfl) (by kernel_rfl) (by kernel_rfl) (fun _ _ _ h => h) (Or.inl ⟨by rfl, ?_⟩) hS ?_
        rotate_left 1
        · intro w' hSw
          go_simp <;> with_reducible rfl
        try simp only [List.getElem_toArray, List.getElem_cons_zero, List.getElem_cons_succ, Act.put, List.setIfInBounds_toArray, List.set_cons_zero, List.set_cons_succ]
        refine wpAnyH_take (i := 5) (v := undef) rfl (by kernel_rfl) (by kernel_rfl) (by kernel_rfl) (fun _ _ _ h => h) (Or.inr ⟨by go_simp, rfl⟩) hS ?_
        try simp only [List.getElem_toArray, List.getElem_cons_zero, List.getElem_cons_succ, Act.put, List.setIfInBounds_toArray, List.set_cons_zero, List.set_cons_succ]
        refine wpAnyH_take (i := 6) (v := undef) rfl (by kernel_rfl) (by kernel_rfl) (by kernel_rfl) (fun _ _ _ h => h) (Or.inr ⟨by go_simp, rfl⟩) hS ?_
        try simp only [List.getElem_toArray, List.getElem_cons_zero, List.getElem_cons_succ, Act.put, List.setIfInBounds_toArray, List.set_cons_zero, List.set_cons_succ]
        refine wpAnyH_take (i := 7) (v := undef) rfl (by kernel_rfl) (by kernel_rfl) (by kernel_rfl) (fun _ _ _ h => h) (Or.inr ⟨by go_simp, rfl⟩) hS ?_
        try simp only [List.getElem_toArray, List.getElem_cons_zero, List.getElem_cons_succ, Act.put, List.setIfInBounds_toArray, List.set_cons_zero, List.set_cons_succ]
        refine wpAnyH_take (i := 8) (v := undef) rfl (by kernel_rfl) (by kernel_rfl) (by kernel_rfl) (fun _ _ _ h => h) (Or.inr ⟨by go_simp, rfl⟩) hS ?_
        try simp only [List.getElem_toArray, List.getElem_cons_zero, List.getElem_cons_succ, Act.put, List.setIfInBounds_toArray, List.set_cons_zero, List.set_cons_succ]
        refine wpAnyH_take (i := 9) (v := undef) rfl (by kernel_rfl) (by kernel_rfl) (by kernel_rfl) (fun _ _ _ h => h) (Or.inr ⟨by go_simp, rfl⟩) hS ?_
        try simp only [List.getElem_toArray, List.getElem_cons_zero, List.getElem_cons_succ, Act.put, List.setIfInBounds_toArray, List.set_cons_zero, List.set_cons_succ]
        refine wpAnyH_take (i := 10) (v := undef) rfl (by kernel_rfl) (by kernel_rfl) (by kernel_rfl) (fun _ _ _ h => h) (Or.inr ⟨by go_simp, rfl⟩) hS ?_
        try simp only [List.getElem_toArray, List.getElem_cons_zero, List.getElem_cons_succ, Act.put, List.setIfInBounds_toArray, List.set_cons_zero, List.set_cons_succ]
        refine wpAnyH_take (i := 11) (v := undef) rfl (by kernel_rfl) (by kernel_rfl) (by kernel_rfl) (fun _ _ _ h => h) (Or.inr ⟨by go_simp, rfl⟩) hS ?_
        try simp only [List.getElem_toArray, List.getElem_cons_zero, List.getElem_cons_succ, Act.put, List.setIfInBounds_toArray, List.set_cons_zero, List.set_cons_succ]
        refine wpAnyH_take (i := 12) (v := undef) rfl (by kernel_rfl) (by kernel_rfl) (by kernel_rfl) (fun _ _ _ h => h) (Or.inr ⟨by go_simp, rfl⟩) hS ?_
        try simp only [List.getElem_toArray, List.getElem_cons_zero, List.getElem_cons_succ, Act.put, List.setIfInBounds_toArray, List.set_cons_zero, List.set_cons_succ]
        refine wpAnyH_take (i := 13) (v := undef) rfl (by kernel_rfl) (by kernel_rfl) (by kernel_rfl) (fun _ _ _ h => h) (Or.inr ⟨by go_simp, rfl⟩) hS ?_
        try simp only [List.getElem_toArray, List.getElem_cons_zero, List.getElem_cons_succ, Act.put, List.setIfInBounds_toArray, List.set_cons_zero, List.set_cons_succ]
        refine wpAnyH_take (i := 14) (v := undef) rfl (by kernel_rfl) (by kernel_rfl) (by kernel_rfl) (fun _ _ _ h => h) (Or.inr ⟨by go_simp, rfl⟩) hS ?_
        try simp only [List.getElem_toArray, List.getElem_cons_zero, List.getElem_cons_succ, Act.put, List.setIfInBounds_toArray, List.set_cons_zero, List.set_cons_succ]
        refine wpAnyH_take (i := 15) (v := ?_) rfl (by kernel_rfl) (by kernel_rfl) (by kernel_rfl) (fun _ _ _ h => h) (Or.inl ⟨by rfl, ?_⟩) hS ?_
        rotate_left 1
        · intro w' hSw
          go_simp <;> with_reducible rfl
        try simp only [List.getElem_toArray, List.getElem_cons_zero, List.getElem_cons_succ, Act.put, List.setIfInBounds_toArray, List.set_cons_zero, List.set_cons_succ]
        refine wpAnyH_take (i := 16) (v := ?_) rfl (by kernel_rfl) (by kernel_rfl) (by kernel_rfl) (fun _ _ _ h => h) (Or.inl ⟨by rfl, ?_⟩) hS ?_
        rotate_left 1
        · intro w' hSw
          go_simp <;> with_reducible rfl
        try simp only [List.getElem_toArray, List.getElem_cons_zero, List.getElem_cons_succ, Act.put, List.setIfInBounds_toArray, List.set_cons_zero, List.set_cons_succ]
        refine wpAnyH_take (i := 17) (v := ?_) rfl (by kernel_rfl) (by kernel_rfl) (by kernel_rfl) (fun _ _ _ h => h) (Or.inl ⟨by go_simp, ?_⟩) hS ?_
        rotate_left 1
        · intro w' hSw
          go_simp <;> with_reducible rfl
        try simp only [List.getElem_toArray, List.getElem_cons_zero, List.getElem_cons_succ, Act.put, List.setIfInBounds_toArray, List.set_cons_zero, List.set_cons_succ]
        refine wpAnyH_take (i := 18) (v := ?_) rfl (by kernel_rfl) (by kernel_rfl) (by kernel_rfl) (fun _ _ _ h => h) (Or.inl ⟨by go_simp, ?_⟩) hS ?_
        rotate_left 1
        · intro w' hSw
          go_simp <;> with_reducible rfl
        try simp only [List.getElem_toArray, List.getElem_cons_zero, List.getElem_cons_succ, Act.put, List.setIfInBounds_toArray, List.set_cons_zero, List.set_cons_succ]
        refine wpAnyH_take (i := 19) (v := ?_) rfl (by kernel_rfl) (by kernel_rfl) (by kernel_rfl) (fun _ _ _ h => h) (Or.inl ⟨by go_simp, ?_⟩) hS ?_
        rotate_left 1
        · intro w' hSw
          go_simp <;> with_reducible rfl
        try simp only [List.getElem_toArray, List.getElem_cons_zero, List.getElem_cons_succ, Act.put, List.setIfInBounds_toArray, List.set_cons_zero, List.set_cons_succ]
        refine wpAnyH_take (i := 20) (v := ?_) rfl (by kernel_rfl) (by kernel_rfl) (by kernel_rfl) (fun _ _ _ h => h) (Or.inl ⟨by go_simp, ?_⟩) hS ?_
        rotate_left 1
        · intro w' hSw
          go_simp <;> with_reducible rfl
        try simp only [List.getElem_toArray, List.getElem_cons_zero, List.getElem_cons_succ, Act.put, List.setIfInBounds_toArray, List.set_cons_zero, List.set_cons_succ]
        refine wpAnyH_take (i := 21) (v := ?_) rfl (by kernel_rfl) (by kernel_rfl) (by kernel_rfl) (fun _ _ _ h => h) (Or.inl ⟨by go_simp, ?_⟩) hS ?_
        rotate_left 1
        · intro w' hSw
          go_simp <;> with_reducible rfl
        try simp only [List.getElem_toArray, List.getElem_cons_zero, List.getElem_cons_succ, Act.put, List.setIfInBounds_toArray, List.set_cons_zero, List.set_cons_succ]
        refine wpAnyH_take (i := 22) (v := ?_) rfl (by kernel_rfl) (by kernel_rfl) (by kernel_rfl) (fun _ _ _ h => h) (Or.inl ⟨by go_simp, ?_⟩) hS ?_
        rotate_left 1
        · intro w' hSw
          go_simp <;> with_reducible rfl
        try simp only [List.getElem_toArray, List.getElem_cons_zero, List.getElem_cons_succ, Act.put, List.setIfInBounds_toArray, List.set_cons_zero, List.set_cons_succ]
        refine wpAnyH_take (i := 23) (v := ?_) rfl (by kernel_rfl) (by kernel_rfl) (by kernel_rfl) (fun _ _ _ h => h) (Or.inl ⟨by go_simp, ?_⟩) hS ?_
        rotate_left 1
        · intro w' hSw
          go_simp <;> with_reducible rfl
        try simp only [List.getElem_toArray, List.getElem_cons_zero, List.getElem_cons_succ, Act.put, List.setIfInBounds_toArray, List.set_cons_zero, List.set_cons_succ]
        refine wpAnyH_take (i := 24) (v := ?_) rfl (by kernel_rfl) (by kernel_rfl) (by kernel_rfl) (fun _ _ _ h => h) (Or.inl ⟨by go_simp, ?_⟩) hS ?_
        rotate_left 1
        · intro w' hSw
          go_simp <;> with_reducible rfl
        try simp only [List.getElem_toArray, List.getElem_cons_zero, List.getElem_cons_succ, Act.put, List.setIfInBounds_toArray, List.set_cons_zero, List.set_cons_succ]
        refine wpAnyH_take (i := 25) (v := ?_) rfl (by kernel_rfl) (by kernel_rfl) (by kernel_rfl) (fun _ _ _ h => h) (Or.inl ⟨by go_simp, ?_⟩) hS ?_
        rotate_left 1
        · intro w' hSw
          go_simp <;> with_reducible rfl
        try simp only [List.getElem_toArray, List.getElem_cons_zero, List.getElem_cons_succ, Act.put, List.setIfInBounds_toArray, List.set_cons_zero, List.set_cons_succ]
        refine wpAnyH_take (i := 26) (v := ?_) rfl (by kernel_rfl) (by kernel_rfl) (by kernel_rfl) (fun _ _ _ h => h) (Or.inl ⟨by go_simp, ?_⟩) hS ?_
        rotate_left 1
        · intro w' hSw
          go_simp <;> with_reducible rfl
        try simp only [List.getElem_toArray, List.getElem_cons_zero, List.getElem_cons_succ, Act.put, List.setIfInBounds_toArray, List.set_cons_zero, List.set_cons_succ]
        refine wpAnyH_take (i := 27) (v := ?_) rfl (by kernel_rfl) (by kernel_rfl) (by kernel_rfl) (fun _ _ _ h => h) (Or.inl ⟨by go_simp, ?_⟩) hS ?_
        rotate_left 1
        · intro w' hSw
          go_simp <;> with_reducible rfl
        try simp only [List.getElem_toArray, List.getElem_cons_zero, List.getElem_cons_succ, Act.put, List.setIfInBounds_toArray, List.set_cons_zero, List.set_cons_succ]
        refine wpAnyH_take (i := 28) (v := ?_) rfl (by kernel_rfl) (by kernel_rfl) (by kernel_rfl) (fun _ _ _ h => h) (Or.inl ⟨by go_simp, ?_⟩) hS ?_
        rotate_left 1
        · intro w' hSw
          go_simp <;> with_reducible rfl
        try simp only [List.getElem_toArray, List.getElem_cons_zero, List.getElem_cons_succ, Act.put, List.setIfInBounds_toArray, List.set_cons_zero, List.set_cons_succ]
        refine wpAnyH_take (i := 29) (v := ?_) rfl (by kernel_rfl) (by kernel_rfl) (by kernel_rfl) (fun _ _ _ h => h) (Or.inl ⟨by go_simp, ?_⟩) hS ?_
        rotate_left 1
        · intro w' hSw
          go_simp <;> with_reducible rfl
        try simp only [List.getElem_toArray, List.getElem_cons_zero, List.getElem_cons_succ, Act.put, List.setIfInBounds_toArray, List.set_cons_zero, List.set_cons_succ]
        refine wpAnyH_ready (rs := [30]) (by kernel_rfl) (by simp) (AllReadyH.cons rfl (fun K hK => ?_) AllReadyH.nil)
        go_simp
        refine (hmark _ hS).mono ?_
        rintro _ w9 ⟨rfl, hbx⟩
        go_simp
        refine hK.out _ _ (keepS _ hbx) (fun hS => ?_)
        clear hK K
        try simp only [List.getElem_toArray, List.getElem_cons_zero, List.getElem_cons_succ, Act.put, List.setIfInBounds_toArray, List.set_cons_zero, List.set_cons_succ]
        refine wpAnyH_ready (rs := [31]) (by kernel_rfl) (by simp) (AllReadyH.cons rfl (fun K hK => ?_) AllReadyH.nil)
        go_simp
        refine (hsame _ hS).mono ?_
        rintro _ wy ⟨rfl, hbx⟩
        go_simp
        refine hK.out _ _ (keepS _ hbx) (fun hS => ?_)
        clear hK K
        try simp only [List.getElem_toArray, List.getElem_cons_zero, List.getElem_cons_succ, Act.put, List.setIfInBounds_toArray, List.set_cons_zero, List.set_cons_succ]
        refine wpAnyH_take (i := 32) (v := ?_) rfl (by kernel_rfl) (by kernel_rfl) (by kernel_rfl) (fun _ _ _ h => h) (Or.inl ⟨by go_simp, ?_⟩) hS ?_
        rotate_left 1
        · intro w' hSw
          go_simp <;> with_reducible rfl
        try simp only [List.getElem_toArray, List.getElem_cons_zero, List.getElem_cons_succ, Act.put, List.setIfInBounds_toArray, List.set_cons_zero, List.set_cons_succ]
        refine wpAnyH_take (i := 33) (v := ?_) rfl (by kernel_rfl) (by kernel_rfl) (by kernel_rfl) (fun _ _ _ h => h) (Or.inl ⟨by go_simp, ?_⟩) hS ?_
        rotate_left 1
        · intro w' hSw
          go_simp <;> with_reducible rfl
        try simp only [List.getElem_toArray, List.getElem_cons_zero, List.getElem_cons_succ, Act.put, List.setIfInBounds_toArray, List.set_cons_zero, List.set_cons_succ]
        refine wpAnyH_take (i := 34) (v := ?_) rfl (by kernel_rfl) (by kernel_rfl) (by kernel_rfl) (fun _ _ _ h => h) (Or.inl ⟨by rfl, ?_⟩) hS ?_
        rotate_left 1
        · intro w' hSw
          go_simp <;> with_reducible rfl
        try simp only [List.getElem_toArray, List.getElem_cons_zero, List.getElem_cons_succ, Act.put, List.setIfInBounds_toArray, List.set_cons_zero, List.set_cons_succ]
        with_reducible (refine wpAnyH_done (by kernel_rfl) ?_ _)
        have hB2 : Below w.heap.size w _ := hb.trans (hbx.mono hzr)
        clear hb hbx keepS hsame hmark v1
        go_wp2_with fail
        go_roundw
        case rel => exact ⟨k + 1, by omega, by go_num, hB2⟩
        case measure => simp [intOf]; omega
      · have d1 : decide ((k : Int) < (es.length : Int) + 12) = false := decide_eq_false (by omega)
        go_wp2_with fail
        go_ret
        exact ⟨rfl, hb⟩
end Go.Proofs.YtcbomcbflmgmhaaGreat
