/- known, entry, term, cut, New: over this seat's program. -/
import Derived.Test.YthfofnfkopnbhaaPut
namespace Go.Proofs.Ythfofnfkopnbhaa
open Go.RowKit
set_option linter.unusedVariables false
set_option maxRecDepth 100000

theorem rowV_len : ∀ (es : List En) (ds : List (Option Addr × Nat)), ds.length = es.length → (rowV es ds).length = es.length * 6
  | [], [], _ => rfl
  | e :: es, d :: ds, h => by
    have := rowV_len es ds (by simpa using h)
    simp [rowV, this, enV]; omega
theorem rowV_get : ∀ (es : List En) (ds : List (Option Addr × Nat)) (i : Nat) (e : En) (d : Option Addr × Nat), es[i]? = some e → ds[i]? = some d → ∀ j, j < 6 → (rowV es ds)[i * 6 + j]? = (enV e d.1 d.2)[j]?
  | x :: es, c :: ds, 0, e, d, h1, h2, j, hj => by
    simp at h1 h2
    subst h1 h2
    simp only [rowV, Nat.zero_mul, Nat.zero_add]
    rw [List.getElem?_append_left (by simpa [enV] using hj)]
  | x :: es, c :: ds, i + 1, e, d, h1, h2, j, hj => by
    simp at h1 h2
    have := rowV_get es ds i e d h1 h2 j hj
    simp only [rowV]
    rw [List.getElem?_append_right (by simp [enV]; omega)]
    rw [show (i + 1) * 6 + j - (enV x c.1 c.2).length = i * 6 + j by simp [enV]; omega]
    exact this
  | [], _, _, _, _, h1, _, _, _ => by simp at h1
  | _ :: _, [], _, _, _, _, h2, _, _ => by simp at h2
theorem add_add (a : Addr) (i j : Nat) (h : a = ⟨a.block, 0, none⟩) : (a.add i).add j = a.add (i + j) := by
  rw [h]; unfold Addr.add; by_cases hi : i = 0 <;> by_cases hj : j = 0 <;> simp [hi, hj]

/-- The blocks in which a log's entries lie. -/
def LogK (w : World) (p : Nat) (b : Nat) : Prop := b < w.heap.size ∧ b ≠ p
/-- A log's entries read as entries. -/
theorem LogAt.ents {w : World} {p g : Nat} {m : Bool} {v : Value} {es : List En} {ds : List (Option Addr × Nat)} (h : LogAt w p g m v es ds) : ∃ A c, v = .slice A es.length c ∧ Ents w (LogK w p) A c es := by
  rcases h.row.2 with ⟨h1, h2⟩ | ⟨cap, cur, h1, hg, h2, h3, h4, h5⟩
  · have : es = [] := List.eq_nil_of_length_eq_zero h2
    subst this
    exact ⟨none, 0, h1, fun _ => rfl, Nat.le_refl _, by decide, fun h => absurd rfl h⟩
  · refine ⟨some ⟨g, 0, none⟩, cap, h1, fun e => (by cases e), h2, h3, fun _ => ⟨_, rfl, fun i e hi => ?_⟩⟩
    have hil := (List.getElem?_eq_some_iff.1 hi).1
    have hd : i < ds.length := by rw [h.len]; exact hil
    obtain ⟨r1, r2, r3⟩ := h.data i e ds[i] hi (List.getElem?_eq_getElem hd)
    have hcell := h.row.cells (by rw [h1]; simp [Value.ownBlock])
    refine ⟨ds[i].1, ds[i].2, ?_, fun j hj => ?_, r1.keep (fun _ _ => rfl) (fun b hb => ⟨hb.1, hb.2.1⟩), r2, r3⟩
    · rw [add_blk]
      exact ⟨h.lt (by rw [h1]; rfl), h.ne⟩
    · have hv := rowV_get es ds i e ds[i] hi (List.getElem?_eq_getElem hd) j hj
      have hj' : j < (enV e ds[i].1 ds[i].2).length := by simpa [enV] using hj
      rw [add_add _ _ _ rfl, List.getElem?_eq_getElem hj']
      exact hcell _ _ (by rw [hv, List.getElem?_eq_getElem hj'])
theorem LogAt.c0 {w : World} {p g : Nat} {m : Bool} {v : Value} {es : List En} {ds : List (Option Addr × Nat)} (h : LogAt w p g m v es ds) : w.cell? ⟨p, 0, none⟩ = some v := by rw [cell_of_row w p 0 _ _ _ h.obj]; rfl
theorem LogAt.c1 {w : World} {p g : Nat} {m : Bool} {v : Value} {es : List En} {ds : List (Option Addr × Nat)} (h : LogAt w p g m v es ds) : w.cell? ⟨p, 1, none⟩ = some (.bool m) := by rw [cell_of_row w p 1 _ _ _ h.obj]; rfl
theorem LogAt.plt {w : World} {p g : Nat} {m : Bool} {v : Value} {es : List En} {ds : List (Option Addr × Nat)} (h : LogAt w p g m v es ds) : p < w.heap.size := (Array.getElem?_eq_some_iff.1 h.obj).1
/-- What leaves the log's blocks alone leaves the log. -/
theorem LogAt.below {w w' : World} {p g : Nat} {m : Bool} {v : Value} {es : List En} {ds : List (Option Addr × Nat)} (h : LogAt w p g m v es ds) (hb : Below w.heap.size w w') : LogAt w' p g m v es ds :=
  ⟨(hb.block p h.plt).trans h.obj, h.row.keep (fun e => hb.block g (h.lt e)), h.len, h.ne, fun e => Nat.lt_of_lt_of_le (h.lt e) hb.size,
    fun i e d hi hd => let ⟨h1, h2, h3⟩ := h.data i e d hi hd; ⟨h1.keep (fun b hb' => hb.block b hb'.1) (fun b hb' => ⟨Nat.lt_of_lt_of_le hb'.1 hb.size, hb'.2.1, hb'.2.2⟩), h2, h3⟩⟩

theorem known_true (p : Nat) (w : World) (h : w.cell? ⟨p, 1, none⟩ = some (.bool true)) : Calls Try.prog 42 #[.pointer (some ⟨p, 0, none⟩)] w fun e w' => e = .returned (.bool true) ∧ w = w' := by
  go_enter Try.func42, Try.ntmps42
  go_wp2_with fail
  go_ret
  exact ⟨rfl, rfl⟩
theorem known_false (p : Nat) (w : World) (h : w.cell? ⟨p, 1, none⟩ = some (.bool false)) : Calls Try.prog 42 #[.pointer (some ⟨p, 0, none⟩)] w fun e w' => e = .returned (.bool false) ∧ w = w' := by
  go_enter Try.func42, Try.ntmps42
  go_wp2_with fail
  go_ret
  exact ⟨rfl, rfl⟩
theorem known_nil (w : World) : Calls Try.prog 42 #[.pointer none] w fun e w' => e = .returned (.bool false) ∧ w = w' := by
  go_enter Try.func42, Try.ntmps42
  go_wp2_with fail
  go_ret
  exact ⟨rfl, rfl⟩

def en0 : En := ⟨0, 0, 0, 0, false, []⟩
/-- What entry tells: an entry of the log, or that of zeros. -/
def Gave (es : List En) (w : World) (p : Nat) (i : Int) (x : Ending) (w' : World) : Prop :=
  ∃ e A c b, x = .returned (.tuple #[enA e A c, .bool b]) ∧ Below w.heap.size w w' ∧ Rd w (LogK w p) A c (u8s e.data) ∧ e.data.length ≤ c ∧ c ≤ maxLen ∧
    ((1 ≤ i ∧ es[(i - 1).toNat]? = some e ∧ b = true) ∨ (¬ (1 ≤ i ∧ i ≤ es.length) ∧ e = en0 ∧ b = false))
set_option maxHeartbeats 1000000 in
theorem entry_any (w : World) (p g : Nat) (m : Bool) (v : Value) (es : List En) (ds : List (Option Addr × Nat)) (i : Int) (h : LogAt w p g m v es ds) :
    Calls Try.prog 61 #[.pointer (some ⟨p, 0, none⟩), .int .i64 i] w (Gave es w p i) := by
  obtain ⟨A, c, rfl, he⟩ := h.ents
  have h0 := h.c0
  have hp := h.plt
  have H := Lib.hid h
  clear h
  have hn : es.length ≤ 9223372036854775807 := Nat.le_trans he.2.1 (Nat.le_trans he.2.2.1 (by decide))
  have hb1 : Below w.heap.size w (w.alloc (.cells #[.int .i64 0, .int .u8 0, .int .i64 0, .int .i64 0, .bool false, .slice none 0 0] 44)) := (Below.refl _ _).alloc (Nat.le_refl _) _
  by_cases h1 : i < 1
  · go_enter Try.func61, Try.ntmps61
    go_wp2_with fail
    exact bodyPost_ret (v := .tuple #[enA en0 none 0, .bool false]) (by simp [results, Try.results61, go_sem, enA, enV, en0]) rfl ⟨en0, none, 0, false, rfl, hb1, Rd.none_ _ _ _ _ (fun _ => rfl), Nat.le_refl _, by decide, .inr ⟨by omega, rfl, rfl⟩⟩
  · by_cases h2 : (es.length : Int) < i
    · have d1 : decide (i < 1) = false := decide_eq_false (by omega)
      have d2 : decide ((es.length : Int) < i) = true := decide_eq_true h2
      go_enter Try.func61, Try.ntmps61
      go_wp2_with fail
      exact bodyPost_ret (v := .tuple #[enA en0 none 0, .bool false]) (by simp [results, Try.results61, go_sem, enA, enV, en0]) rfl ⟨en0, none, 0, false, rfl, hb1, Rd.none_ _ _ _ _ (fun _ => rfl), Nat.le_refl _, by decide, .inr ⟨by omega, rfl, rfl⟩⟩
    · obtain ⟨k, rfl⟩ : ∃ k : Nat, i = k + 1 := ⟨(i - 1).toNat, by omega⟩
      have hk : k < es.length := by omega
      obtain ⟨a, x, D, d, rfl, ka, hx, ca, ra, la, ma⟩ := (he.keep (K' := LogK w p) (fun b hb => hb1.block b hb.1) (fun _ h => h)).at_ hk
      obtain ⟨a0, a1, a2, a3, a4, a5⟩ := en6 ca
      clear ca
      have d1 : decide ((k : Int) + 1 < 1) = false := decide_eq_false (by omega)
      have d2 : decide ((es.length : Int) < (k : Int) + 1) = false := decide_eq_false (by omega)
      go_enter Try.func61, Try.ntmps61
      go_wp2_with fail
      refine bodyPost_ret (v := .tuple #[enA x D d, .bool true]) (by simp [results, Try.results61, go_sem, enA, enV]) rfl ⟨x, D, d, true, rfl, (Below.refl _ _).alloc (Nat.le_refl _) _, ra.keep (fun b hb => (hb1.block b hb.1).symm) (fun _ h => h), la, ma, .inl ⟨by omega, ?_, rfl⟩⟩
      have := hx.out
      simpa using this

/-- The term at an index; is there one? -/
def termAt (es : List En) (i : Int) : Int := if 1 ≤ i then ((es[(i - 1).toNat]?).map En.term).getD 0 else 0
def hasAt (es : List En) (i : Int) : Bool := decide (0 ≤ i ∧ i ≤ es.length)
theorem gave_term {es : List En} {i : Int} {x : En} {b : Bool} (h : (1 ≤ i ∧ es[(i - 1).toNat]? = some x ∧ b = true) ∨ (¬ (1 ≤ i ∧ i ≤ es.length) ∧ x = en0 ∧ b = false)) : x.term = termAt es i ∧ (b || (i == 0)) = hasAt es i := by
  unfold termAt hasAt
  rcases h with ⟨h1, h2, rfl⟩ | ⟨h1, rfl, rfl⟩
  · have := (List.getElem?_eq_some_iff.1 h2).1
    simp only [h1, if_true, h2]
    refine ⟨rfl, ?_⟩
    simp
    omega
  · by_cases h2 : 1 ≤ i
    · have : es[(i - 1).toNat]? = none := by simp; omega
      simp only [h2, if_true, this]
      refine ⟨rfl, ?_⟩
      simp
      rw [Bool.eq_iff_iff]
      simp
      omega
    · simp only [h2, if_false]
      refine ⟨rfl, ?_⟩
      rw [Bool.eq_iff_iff]
      simp
      omega
theorem ret2_eq {a b : Int} {p q : Bool} (h : a = b) (k : p = q) : Ending.returned (.tuple #[.int .i64 a, .bool p]) = .returned (.tuple #[.int .i64 b, .bool q]) := by rw [h, k]
theorem term_any (w : World) (p g : Nat) (m : Bool) (v : Value) (es : List En) (ds : List (Option Addr × Nat)) (i : Int) (h : LogAt w p g m v es ds) :
    Calls Try.prog 43 #[.pointer (some ⟨p, 0, none⟩), .int .i64 i] w fun e w' => e = .returned (.tuple #[.int .i64 (termAt es i), .bool (hasAt es i)]) ∧ Below w.heap.size w w' := by
  go_enter Try.func43, Try.ntmps43
  go_wp2_with (go_at_call 61; refine (entry_any w p g m v es ds i h).mono ?_; rintro _ w1 ⟨x, A, c, b, rfl, hb, _, _, _, hx⟩; have HX := Lib.hid (gave_term hx); clear hx; simp only [enA, enV])
  · have hb' : b = true := by assumption
    go_ret2
    have h2 := HX.out
    rw [hb'] at h2
    exact ⟨ret2_eq h2.1 h2.2, hb.alloc hb.size _⟩
  · have hb' : ¬ b = true := by assumption
    go_ret2
    have h2 := HX.out
    simp only [hb', Bool.false_or] at h2
    exact ⟨ret2_eq h2.1 h2.2, hb.alloc hb.size _⟩

theorem rowV_take : ∀ (es : List En) (ds : List (Option Addr × Nat)) (n : Nat), ds.length = es.length → n ≤ es.length → rowV (es.take n) (ds.take n) = (rowV es ds).take (n * 6)
  | _, _, 0, _, _ => by simp [rowV]
  | e :: es, d :: ds, n + 1, h, hn => by
    have := rowV_take es ds n (by simpa using h) (by simpa using hn)
    simp only [List.take_succ_cons, rowV, this]
    have h6 : (enV e d.1 d.2).length = 6 := rfl
    rw [List.take_append, List.take_of_length_le (l := enV e d.1 d.2) (by omega), h6, show (n + 1) * 6 - 6 = n * 6 by omega]
  | [], _, n + 1, _, hn => by simp at hn
  | _ :: _, [], _, h, _ => by simp at h
theorem LogAt.cut {w : World} {p g cap : Nat} {m : Bool} {es : List En} {ds : List (Option Addr × Nat)} {n : Nat} (h : LogAt w p g m (.slice (some ⟨g, 0, none⟩) es.length cap) es ds) (hn : n ≤ es.length) :
    LogAt (w.setCell ⟨p, 0, none⟩ (.slice (some ⟨g, 0, none⟩) n n)) p g m (.slice (some ⟨g, 0, none⟩) n n) (es.take n) (ds.take n) ∧ Sv p g w (w.setCell ⟨p, 0, none⟩ (.slice (some ⟨g, 0, none⟩) n n)) := by
  have hsz : (w.setCell ⟨p, 0, none⟩ (.slice (some ⟨g, 0, none⟩) n n)).heap.size = w.heap.size := by simp [World.setCell]
  have hk : ∀ b, b ≠ p → (w.setCell ⟨p, 0, none⟩ (.slice (some ⟨g, 0, none⟩) n n)).heap[b]? = w.heap[b]? := fun b hb => Below.heap_setCell _ _ _ _ hb
  have hl : (es.take n).length = n := by simp; omega
  have hd : (ds.take n).length = n := by simp [h.len]; omega
  refine ⟨⟨setCell_obj h.obj, ?_, by rw [hl, hd], h.ne, fun _ => by rw [hsz]; exact h.lt rfl, ?_⟩, ⟨rfl, rfl, rfl, by rw [hsz]; omega, fun b _ h2 _ => hk b h2⟩⟩
  · rw [hl, rowV_take _ _ _ h.len hn]
    rcases h.row.2 with ⟨h1, _⟩ | ⟨cap', cur, h1, hg, h2, h3, h4, h5⟩
    · cases h1
    · refine ⟨?_, .inr ⟨n, cur, rfl, (hk g h.ne).trans hg, Nat.le_refl _, by omega, ?_, fun h => absurd h (by omega)⟩⟩
      · rw [List.length_take, rowV_len _ _ h.len]; omega
      · rw [← h4, List.take_take, Nat.min_eq_left (by omega)]
  · intro i e d hi hd'
    rw [List.getElem?_take] at hi hd'
    split at hi
    · rename_i hin
      rw [if_pos hin] at hd'
      obtain ⟨h1, h2, h3⟩ := h.data i e d hi hd'
      exact ⟨h1.keep (fun b hb => hk b hb.2.1) (fun b hb => ⟨by rw [hsz]; exact hb.1, hb.2.1, hb.2.2⟩), h2, h3⟩
    · cases hi
/-- The log is cut to n entries. -/
theorem cut_any (w : World) (p g : Nat) (m : Bool) (v : Value) (es : List En) (ds : List (Option Addr × Nat)) (n : Nat) (h : LogAt w p g m v es ds) (hn : n ≤ es.length) :
    Calls Try.prog 86 #[.pointer (some ⟨p, 0, none⟩), .int .i64 n] w fun e w' => (∃ r, e = .returned r) ∧ ∃ v', LogAt w' p g m v' (es.take n) (ds.take n) ∧ Sv p g w w' ∧ (v.ownBlock = none → v'.ownBlock = none) := by
  have h0 := h.c0
  have hf := frozen_blk h.obj 0
  rcases h.row.2 with ⟨rfl, h2⟩ | ⟨cap, cur, rfl, hg, h2, h3, h4, h5⟩
  · have : es = [] := List.eq_nil_of_length_eq_zero h2
    subst this
    have hds : ds = [] := List.eq_nil_of_length_eq_zero h.len
    subst hds
    have : n = 0 := by simpa using hn
    subst this
    have HC := Lib.hid h
    clear h h2 hn
    go_enter Try.func86, Try.ntmps86
    go_wp2_with fail
    go_end0
    have h := HC.out
    have hsz : (w.setCell ⟨p, 0, none⟩ (.slice none 0 0)).heap.size = w.heap.size := by simp [World.setCell]
    exact ⟨⟨_, rfl⟩, _, ⟨setCell_obj h.obj, Row.nil _ _ _ _, rfl, h.ne, (fun e => by cases e), fun i e d hi => by simp at hi⟩, ⟨rfl, rfl, rfl, by rw [hsz]; omega, fun b _ h2 _ => Below.heap_setCell _ _ _ _ h2⟩, fun _ => rfl⟩
  · have hcap : cap ≤ 9223372036854775807 := Nat.le_trans h3 (by decide)
    have HC := Lib.hid (h.cut hn)
    have i1 : n ≤ cap := by omega
    clear h h4 h5 hg
    go_enter Try.func86, Try.ntmps86
    go_wp2_with fail
    go_end0
    exact ⟨⟨_, rfl⟩, _, HC.out.1, HC.out.2, (fun e => by cases e)⟩
end Go.Proofs.Ythfofnfkopnbhaa
