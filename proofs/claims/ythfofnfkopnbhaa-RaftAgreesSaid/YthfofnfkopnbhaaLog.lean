/- New, Last, At, Term, Put: over this seat's program. -/
import Derived.Test.YthfofnfkopnbhaaEntry
namespace Go.Proofs.Ythfofnfkopnbhaa
open Go.RowKit
set_option linter.unusedVariables false
set_option maxRecDepth 100000

/-- A log that was made, with these entries, in blocks from B on. -/
def Has (B : Nat) (w : World) (p : Nat) (es : List En) : Prop := ∃ g v ds, LogAt w p g true v es ds ∧ B ≤ p ∧ B ≤ g
theorem Has.below {B p : Nat} {w w' : World} {es : List En} (h : Has B w p es) (hb : Below w.heap.size w w') : Has B w' p es := let ⟨g, v, ds, h1, h2⟩ := h; ⟨g, v, ds, h1.below hb, h2⟩
theorem Sv.below {p g B : Nat} {w w' : World} (h : Sv p g w w') (hp : B ≤ p) (hg : B ≤ g) (hB : B ≤ w.heap.size) : Below B w w' := ⟨h.os, h.tape, h.output, h.size, fun k hk => h.block k (by omega) (by omega) (by omega)⟩

theorem New_any (A : Option Addr) (c : Nat) (ns : List En) (w : World) (ha : Ents w (fun b => b < w.heap.size) A c ns) (hs : ns.length ≤ 100000) (hd : ∀ e ∈ ns, e.data.length ≤ 100000000) :
    Calls Try.prog 20 #[.slice A ns.length c] w fun x w' => ∃ p, x = .returned (.pointer (some ⟨p, 0, none⟩)) ∧ Has w.heap.size w' p ns ∧ Below w.heap.size w w' := by
  have hL : LogAt (w.alloc (.cells #[.slice none 0 0, .bool true] 84)) w.heap.size (w.heap.size + 1) true (.slice none 0 0) [] [] :=
    ⟨heap_alloc_new w _, Row.nil _ _ _ _, rfl, by omega, (fun e => by cases e), fun i e d hi => by simp at hi⟩
  have hb0 : Below w.heap.size w (w.alloc (.cells #[.slice none 0 0, .bool true] 84)) := (Below.refl _ _).alloc (Nat.le_refl _) _
  go_enter Try.func20, Try.ntmps20
  go_wp2_with (go_at_call 39; refine (put_any (fun b => b < w.heap.size) A c ns _ _ _ _ _ _ hL (ha.keep (fun b hb => hb0.block b hb) (fun _ h => h)) (fun b hb => ⟨by simp; omega, by omega, by omega⟩) (by simpa using hs) hd).mono ?_; rintro _ w1 ⟨⟨r, rfl⟩, v', g', ds', hL', hS, hg⟩)
  go_ret
  refine ⟨_, rfl, ⟨g', v', ds', by simpa using hL', Nat.le_refl _, ?_⟩, hb0.trans (hS.below (Nat.le_refl _) (by omega) (by simp))⟩
  rcases hg with h | h
  · omega
  · simp at h; omega

theorem Term_any (B : Nat) (w : World) (p : Nat) (es : List En) (i : Int) (h : Has B w p es) :
    Calls Try.prog 48 #[.pointer (some ⟨p, 0, none⟩), .int .i64 i] w fun e w' => e = .returned (.tuple #[.int .i64 (termAt es i), .bool (hasAt es i)]) ∧ Below w.heap.size w w' := by
  obtain ⟨g, v, ds, h, _⟩ := h
  go_enter Try.func48, Try.ntmps48
  go_wp2_with (first
    | (go_at_call 42; refine (known_true p w h.c1).mono ?_; rintro _ w1 ⟨rfl, rfl⟩)
    | (go_at_call 43; refine (term_any w p g true v es ds i h).mono ?_; rintro _ w2 ⟨rfl, hb⟩))
  go_ret2
  exact ⟨rfl, hb⟩

theorem Last_any (B : Nat) (w : World) (p : Nat) (es : List En) (h : Has B w p es) :
    Calls Try.prog 23 #[.pointer (some ⟨p, 0, none⟩)] w fun e w' => e = .returned (.tuple #[.int .i64 es.length, .int .i64 (termAt es es.length)]) ∧ Below w.heap.size w w' := by
  obtain ⟨g, v, ds, h, _⟩ := h
  obtain ⟨A, c, rfl, he⟩ := h.ents
  have h0 := h.c0
  go_enter Try.func23, Try.ntmps23
  go_wp2_with (first
    | (go_at_call 42; refine (known_true p w h.c1).mono ?_; rintro _ w1 ⟨rfl, rfl⟩)
    | (go_at_call 43; refine (term_any w p g true _ es ds _ h).mono ?_; rintro _ w2 ⟨rfl, hb⟩))
  go_ret2
  exact ⟨rfl, hb⟩

/-- The row's block is there, or it is as far away as one likes. -/
theorem Has.far {B p : Nat} {w : World} {es : List En} (h : Has B w p es) (N : Nat) (hN : w.heap.size ≤ N) (hB : B ≤ w.heap.size) : ∃ g v ds, LogAt w p g true v es ds ∧ B ≤ p ∧ B ≤ g ∧ (g < w.heap.size ∨ g = N) := by
  obtain ⟨g, v, ds, h, h1, h2⟩ := h
  rcases h.row.2 with ⟨e1, e2⟩ | ⟨cap, cur, e1, e2, _⟩
  · have : es = [] := List.eq_nil_of_length_eq_zero e2
    subst this
    have hds : ds = [] := List.eq_nil_of_length_eq_zero h.len
    subst hds
    subst e1
    have := h.plt
    exact ⟨N, _, [], ⟨h.obj, Row.nil _ _ _ _, rfl, by omega, (fun e => by cases e), fun i e d hi => by simp at hi⟩, h1, by omega, .inr rfl⟩
  · exact ⟨g, v, ds, h, h1, h2, .inl (h.lt (by rw [e1]; rfl))⟩
theorem Has.plt {B p : Nat} {w : World} {es : List En} (h : Has B w p es) : p < w.heap.size := let ⟨_, _, _, h, _⟩ := h; h.plt
theorem Has.c1 {B p : Nat} {w : World} {es : List En} (h : Has B w p es) : w.cell? ⟨p, 1, none⟩ = some (.bool true) := let ⟨_, _, _, h, _⟩ := h; h.c1
theorem Has.c0 {B p : Nat} {w : World} {es : List En} (h : Has B w p es) : ∃ A c, w.cell? ⟨p, 0, none⟩ = some (.slice A es.length c) := by
  obtain ⟨g, v, ds, h, _⟩ := h
  obtain ⟨A, c, rfl, _⟩ := h.ents
  exact ⟨A, c, h.c0⟩
theorem Has.mono {B B' p : Nat} {w : World} {es : List En} (h : Has B w p es) (hB : B' ≤ B) : Has B' w p es := let ⟨g, v, ds, h, h1, h2⟩ := h; ⟨g, v, ds, h, by omega, by omega⟩
theorem ents_one (w : World) (K : Nat → Prop) (e : En) (A : Option Addr) (c : Nat) (g : Nat) (hg : w.heap[g]? = some (.cells (enV e A c).toArray 44 (0, 0))) (ha : Rd w K A c (u8s e.data)) (hl : e.data.length ≤ c) (hc : c ≤ maxLen) (hk : K g) : Ents w K (some ⟨g, 0, none⟩) 1 [e] := by
  refine ⟨fun e => (by cases e), Nat.le_refl _, by decide, fun _ => ⟨_, rfl, fun i x hi => ?_⟩⟩
  have hi0 : i = 0 := by have := (List.getElem?_eq_some_iff.1 hi).1; simp at this; exact this
  subst hi0
  simp at hi
  subst hi
  refine ⟨A, c, by rw [add_blk]; exact hk, fun j hj => ?_, ha, hl, hc⟩
  rw [add_add _ _ _ rfl]
  have hadd : (⟨g, 0, none⟩ : Addr).add (0 * 6 + j) = ⟨g, j, none⟩ := by unfold Addr.add; split <;> simp_all
  rw [hadd, cell_of_row _ _ j _ _ _ hg]
  simp
theorem Put_any (B : Nat) (K : Nat → Prop) (w : World) (p : Nat) (es : List En) (e : En) (A : Option Addr) (c : Nat) (h : Has B w p es) (ha : Rd w K A c (u8s e.data)) (hK : ∀ b, K b → b < B) (hB : B ≤ w.heap.size) (hl : e.data.length ≤ c) (hc : c ≤ maxLen) (hs : es.length + 1 ≤ 100000) (hd : e.data.length ≤ 100000000) :
    Calls Try.prog 45 #[.pointer (some ⟨p, 0, none⟩), enA e A c] w fun x w' => x = .returned (.int .i64 (es.length + 1)) ∧ Has B w' p (es ++ [e]) ∧ Below B w w' := by
  obtain ⟨g, v, ds, h, hBp, hBg, hg⟩ := h.far (w.heap.size + 100) (by omega) hB
  have hp := h.plt
  have hbA : Below w.heap.size w (w.alloc (.cells #[.int .i64 e.term, .int .u8 e.kind, .int .i64 e.ver, .int .i64 e.srv, .bool e.good, .slice A e.data.length c] 44)) := (Below.refl _ _).alloc (Nat.le_refl _) _
  have hA := h.below hbA
  go_enter Try.func45, Try.ntmps45
  unfold enA enV
  go_wp2_with (go_at_call 42; refine (known_true p _ hA.c1).mono ?_; rintro _ w1 ⟨rfl, rfl⟩)
  obtain ⟨c0, c1, c2, c3, c4, c5⟩ := cells6 (heap_alloc_new w (Obj.cells #[.int .i64 e.term, .int .u8 e.kind, .int .i64 e.ver, .int .i64 e.srv, .bool e.good, .slice A e.data.length c] 44))
  have hsz : (w.alloc (.cells #[.int .i64 e.term, .int .u8 e.kind, .int .i64 e.ver, .int .i64 e.srv, .bool e.good, .slice A e.data.length c] 44)).heap.size = w.heap.size + 1 := by simp
  generalize (w.alloc (.cells #[.int .i64 e.term, .int .u8 e.kind, .int .i64 e.ver, .int .i64 e.srv, .bool e.good, .slice A e.data.length c] 44)) = wa at *
  have HZ := Lib.hid hsz
  clear hsz
  have hra : Rd wa (fun b => b < B) A c (u8s e.data) := ha.keep (fun b hb => hbA.block b (Nat.lt_of_lt_of_le (hK b hb) hB)) hK
  have hcon : ∀ W, Below wa.heap.size wa W → W.heap[wa.heap.size]? = some (.cells (enV e A c).toArray 44 (0, 0)) → Calls Try.prog 39 #[.pointer (some ⟨p, 0, none⟩), .slice (some ⟨wa.heap.size, 0, none⟩) 1 1] W fun x w' => (∃ r, x = .returned r) ∧ ∃ v' g' ds', LogAt w' p g' true v' (es ++ [e]) ds' ∧ B ≤ g' ∧ Below B w w' := by
    intro W hb hg'
    have hz := HZ.out
    have hW := (Array.getElem?_eq_some_iff.1 hg').1
    refine (put_any (fun b => b < B ∨ b = wa.heap.size) (some ⟨wa.heap.size, 0, none⟩) 1 [e] W p g v es ds (hA.below hb) (ents_one W _ e A c _ hg' (hra.keep (fun b h => hb.block b (by omega)) (fun b h => .inl h)) hl hc (.inr rfl)) (fun b h => ?_) hs (fun x hx => by simp at hx; rw [hx]; exact hd)).mono ?_
    · rcases h with h | h
      · exact ⟨by omega, by omega, by omega⟩
      · exact ⟨by omega, by omega, by omega⟩
    · rintro x w' ⟨hr, v', g', ds', h1, h2, h3⟩
      exact ⟨hr, v', g', ds', h1, by omega, (hbA.mono hB).trans ((hb.mono (by omega)).trans (h2.below hBp hBg (by omega)))⟩
  clear hA hbA hra h ha
  go_region_law ((go_simp; go_at_call 39; refine (hcon _ (((Below.refl _ _).drew).alloc (Nat.le_refl _) _) (heap_alloc_new wa.drew _)).mono ?_; rintro _ w3 ⟨⟨r, rfl⟩, v', g', ds', hL, hg', hB'⟩; obtain ⟨A', cc, rfl, hE⟩ := hL.ents; have o0 := hL.c0))
  all_goals
    go_wp2_with fail
    go_ret
    exact ⟨by simp, ⟨g', _, ds', hL, hBp, hg'⟩, hB'⟩
end Go.Proofs.Ythfofnfkopnbhaa
