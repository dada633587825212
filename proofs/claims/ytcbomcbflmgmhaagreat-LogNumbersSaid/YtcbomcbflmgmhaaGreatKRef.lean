/- The reference's log: New, At, Term, Last: over this seat's program. -/
import Derived.Test.YtcbomcbflmgmhaaGreatKCopy
import Derived.Test.YtcbomcbflmgmhaaGreatKFrom
namespace Go.Proofs.YtcbomcbflmgmhaaGreat
open Go.RowKit
set_option linter.unusedVariables false
set_option maxRecDepth 100000

theorem owns_form {w : World} {base e size n : Nat} {v : Value} {xs : List Value} (h : w.ownsRow base e size v n xs) : ∃ A c, v = .slice A n c := by
  rcases h.2 with ⟨h', hn⟩ | ⟨g, cap, cur, h', _⟩
  · exact ⟨none, 0, by rw [h', hn]⟩
  · exact ⟨_, _, h'⟩
theorem owns_zero {w : World} {base e size n : Nat} {v : Value} {xs : List Value} (h : w.ownsRow base e size v n xs) : w.ownsRow 0 e size v n xs := by
  refine ⟨h.1, ?_⟩
  rcases h.2 with h' | ⟨g, cap, cur, rfl, hb, hr⟩
  · exact .inl h'
  · exact .inr ⟨g, cap, cur, rfl, Nat.zero_le _, hr⟩
/-- The reference's log at q, with these entries, in blocks of R. -/
def RefS (R : Nat → Prop) (w : World) (q : Nat) (es : List En) : Prop :=
  R q ∧ ∃ v K ds, w.heap[q]? = some (.cells #[v] 40 (0, 0)) ∧ RowK w 0 v K es ds ∧ (∀ g, v.ownBlock = some g → R g ∧ g ≠ q) ∧ ∀ b, K b → R b ∧ b ≠ q
theorem RefS.keep {R : Nat → Prop} {w w' : World} {q : Nat} {es : List En} (h : RefS R w q es) (ha : Ag R w w') : RefS R w' q es := by
  obtain ⟨h0, v, K, ds, h1, h2, h3, h4⟩ := h
  refine ⟨h0, v, K, ds, (ha.block q (Array.getElem?_eq_some_iff.1 h1).1 h0).trans h1, ⟨owns_keep h2.own (fun g e => ha.block g (owns_block h2.own g e).2 (h3 g e).1), h2.len, fun i e d hi hd => (h2.data i e d hi hd).keep (fun b hb hl => ha.block b hl (h4 b hb).1) ha.size (fun _ h _ => h), fun b hb => let ⟨k1, k2, k3⟩ := h2.kk b hb; ⟨k1, Nat.lt_of_lt_of_le k2 ha.size, k3⟩⟩, h3, h4⟩
theorem RefS.mono {R R' : Nat → Prop} {w : World} {q : Nat} {es : List En} (h : RefS R w q es) (hR : ∀ b, R b → R' b) : RefS R' w q es :=
  let ⟨h0, v, K, ds, h1, h2, h3, h4⟩ := h; ⟨hR _ h0, v, K, ds, h1, h2, fun g e => ⟨hR _ (h3 g e).1, (h3 g e).2⟩, fun b hb => ⟨hR _ (h4 b hb).1, (h4 b hb).2⟩⟩
theorem RefS.below {R : Nat → Prop} {w w' : World} {q : Nat} {es : List En} (h : RefS R w q es) (hb : Below w.heap.size w w') : RefS R w' q es := h.keep (Ag.of_below R hb)

theorem refNew_any (K : Nat → Prop) (A : Option Addr) (c : Nat) (es : List En) (w : World) (ha : Ents w K A c es) (hK : ∀ b, K b → b < w.heap.size) (hn : es.length ≤ 100000) (hd : ∀ e ∈ es, e.data.length ≤ 1000000) :
    Calls Tryz.prog 9 #[.slice A es.length c] w fun x w' => ∃ q, x = .returned (.pointer (some ⟨q, 0, none⟩)) ∧ RefS (Fresh w w') w' q es ∧ Below w.heap.size w w' := by
  go_enter Tryz.func9, Tryz.ntmps9
  go_wp2_with fail
  refine (CopyEntries_any K A c es w ha hK hn hd).mono ?_
  rintro _ w1 ⟨v, KR, ds, rfl, hR, hb⟩
  have hsz := hb.size
  obtain ⟨A', c', rfl⟩ := owns_form hR.own
  go_wp2_with fail
  go_ret
  have hR' := hR.keep (w' := w1.alloc (.cells #[.slice A' es.length c'] 40)) (by simp) (fun b _ hl => heap_alloc_old w1 _ hl)
  refine ⟨w1.heap.size, rfl, ⟨⟨by omega, by simp⟩, _, KR, ds, heap_alloc_new w1 _, ⟨owns_zero hR'.own, hR'.len, hR'.data, fun b hb' => ⟨Nat.zero_le _, (hR'.kk b hb').2⟩⟩, fun g e => ?_, fun b hb' => ?_⟩, hb.alloc hb.size _⟩
  · have := owns_block hR.own g e
    exact ⟨⟨this.1, by simp; omega⟩, by omega⟩
  · have := hR.kk b hb'
    exact ⟨⟨this.1, by simp; omega⟩, by omega⟩

theorem RowK.ents {w : World} {N : Nat} {v : Value} {K : Nat → Prop} {es : List En} {ds : List (Option Addr × Nat)} (h : RowK w N v K es ds) : ∃ A c, v = .slice A es.length c ∧ Ents w (fun b => (v.ownBlock = some b ∨ K b) ∧ b < w.heap.size) A c es := by
  have hcell : ∀ g, v.ownBlock = some g → _ := fun g hg => World.ownsRow.cells (g := g) h.own hg
  rcases h.own.2 with ⟨h1, h2⟩ | ⟨g, cap, cur, h1, hb, hg, h2, h3, h4, h5⟩
  · have : es = [] := List.eq_nil_of_length_eq_zero h2
    subst this
    exact ⟨none, 0, h1, fun _ => rfl, Nat.le_refl _, by decide, fun h => absurd rfl h⟩
  · have hvg : v.ownBlock = some g := by rw [h1]; rfl
    refine ⟨some ⟨g, 0, none⟩, cap, h1, fun e => (by cases e), h2, h3, fun _ => ⟨_, rfl, fun i e hi => ?_⟩⟩
    have hil := (List.getElem?_eq_some_iff.1 hi).1
    have hd : i < ds.length := by rw [h.len]; exact hil
    obtain ⟨r1, r2, r3⟩ := ((h.data i e ds[i] hi (List.getElem?_eq_getElem hd)).keep (K' := fun b => (v.ownBlock = some b ∨ K b) ∧ b < w.heap.size) (fun _ _ _ => rfl) (Nat.le_refl _) (fun b hb hl => ⟨.inr hb, hl⟩)).rd
    refine ⟨ds[i].1, ds[i].2, ?_, fun j hj => ?_, r1, r2, r3⟩
    · rw [add_blk]
      exact ⟨.inl hvg, (Array.getElem?_eq_some_iff.1 hg).1⟩
    · have hv := rowV_get es ds i e ds[i] hi (List.getElem?_eq_getElem hd) j hj
      have hj' : j < (enV e ds[i].1 ds[i].2).length := by simpa [enV] using hj
      rw [add_add _ _ _ rfl, List.getElem?_eq_getElem hj']
      exact hcell g hvg _ _ (by rw [hv, List.getElem?_eq_getElem hj'])
set_option maxHeartbeats 1000000 in
theorem refAt_K (w : World) (p : Nat) (A : Option Addr) (c : Nat) (es : List En) (K : Nat → Prop) (i : Int) (h0 : w.cell? ⟨p, 0, none⟩ = some (.slice A es.length c)) (hp : p < w.heap.size) (he : Ents w K A c es) (hK : ∀ b, K b → b < w.heap.size) :
    Calls Tryz.prog 35 #[.pointer (some ⟨p, 0, none⟩), .int .i64 i] w (GaveK es K w i) := by
  have hn : es.length ≤ 9223372036854775807 := Nat.le_trans he.2.1 (Nat.le_trans he.2.2.1 (by decide))
  have hb1 : Below w.heap.size w (w.alloc (.cells #[.int .i64 0, .int .u8 0, .int .i64 0, .int .i64 0, .bool false, .slice none 0 0] 53)) := (Below.refl _ _).alloc (Nat.le_refl _) _
  by_cases h1 : i < 1
  · go_enter Tryz.func35, Tryz.ntmps35
    go_wp2_with fail
    exact bodyPost_ret (v := .tuple #[enA en0 none 0, .bool false]) (by simp [results, Tryz.results35, go_sem, enA, enV, en0]) rfl ⟨en0, none, 0, false, rfl, hb1, Rd.none_ _ _ _ _ (fun _ => rfl), Nat.le_refl _, by decide, .inr ⟨by omega, rfl, rfl⟩⟩
  · by_cases h2 : (es.length : Int) < i
    · have d1 : decide (i < 1) = false := decide_eq_false (by omega)
      have d2 : decide ((es.length : Int) < i) = true := decide_eq_true h2
      go_enter Tryz.func35, Tryz.ntmps35
      go_wp2_with fail
      exact bodyPost_ret (v := .tuple #[enA en0 none 0, .bool false]) (by simp [results, Tryz.results35, go_sem, enA, enV, en0]) rfl ⟨en0, none, 0, false, rfl, hb1, Rd.none_ _ _ _ _ (fun _ => rfl), Nat.le_refl _, by decide, .inr ⟨by omega, rfl, rfl⟩⟩
    · obtain ⟨k, rfl⟩ : ∃ k : Nat, i = k + 1 := ⟨(i - 1).toNat, by omega⟩
      have hk : k < es.length := by omega
      obtain ⟨a, x, D, d, rfl, ka, hx, ca, ra, la, ma⟩ := (he.keep (K' := K) (fun b hb => hb1.block b (hK b hb)) (fun _ h => h)).at_ hk
      obtain ⟨a0, a1, a2, a3, a4, a5⟩ := en6 ca
      clear ca
      have d1 : decide ((k : Int) + 1 < 1) = false := decide_eq_false (by omega)
      have d2 : decide ((es.length : Int) < (k : Int) + 1) = false := decide_eq_false (by omega)
      go_enter Tryz.func35, Tryz.ntmps35
      go_wp2_with fail
      refine bodyPost_ret (v := .tuple #[enA x D d, .bool true]) (by simp [results, Tryz.results35, go_sem, enA, enV]) rfl ⟨x, D, d, true, rfl, (Below.refl _ _).alloc (Nat.le_refl _) _, ra.keep (fun b hb => (hb1.block b (hK b hb)).symm) (fun _ h => h), la, ma, .inl ⟨by omega, ?_, rfl⟩⟩
      have := hx.out
      simpa using this

theorem refTerm_K (w : World) (p : Nat) (A : Option Addr) (c : Nat) (es : List En) (K : Nat → Prop) (i : Int) (h0 : w.cell? ⟨p, 0, none⟩ = some (.slice A es.length c)) (hp : p < w.heap.size) (he : Ents w K A c es) (hK : ∀ b, K b → b < w.heap.size) :
    Calls Tryz.prog 18 #[.pointer (some ⟨p, 0, none⟩), .int .i64 i] w fun e w' => e = .returned (.tuple #[.int .i64 (termAt es i), .bool (hasAt es i)]) ∧ Below w.heap.size w w' := by
  by_cases hi : i = 0
  · subst hi
    go_enter Tryz.func18, Tryz.ntmps18
    go_wp2_with fail
    go_ret2
    exact ⟨ret2_eq (by simp [termAt]) (by simp [hasAt]), Below.refl _ _⟩
  · have hne : (i == 0) = false := by simp [hi]
    go_enter Tryz.func18, Tryz.ntmps18
    go_wp2_with (go_at_call 35; refine (refAt_K w p A c es K i h0 hp he hK).mono ?_; rintro _ w1 ⟨x, A', c', b, rfl, hb, _, _, _, hx⟩; have HX := Lib.hid (gave_term hx); clear hx; simp only [enA, enV])
    go_ret2
    have h2 := HX.out
    simp only [hne, Bool.or_false] at h2
    exact ⟨ret2_eq h2.1 h2.2, hb.alloc hb.size _⟩
end Go.Proofs.YtcbomcbflmgmhaaGreat
