/- The log by the blocks in which it lies: New, cut, Put, Fit. Put: the log by its blocks. -/
import Derived.Test.YthfofnfkopnbhaaZ2
import Derived.Test.YthfofnfkopnbhaaZ3
namespace Go.Proofs.Ythfofnfkopnbhaa
open Go.RowKit
set_option linter.unusedVariables false
set_option maxRecDepth 100000

theorem Lg.at_ {w : World} {p g : Nat} {K : Nat → Prop} {v : Value} {es : List En} {ds : List (Option Addr × Nat)} (h : Lg w p g [.bool true] 84 K v es ds) : LogAt w p g true v es ds :=
  ⟨h.obj, h.row, h.len, h.ne, h.lt, fun i e d hi hd => let ⟨h1, h2, h3⟩ := (h.data i e d hi hd).rd; ⟨h1.keep (fun _ _ => rfl) (fun b hb => h.kk b hb), h2, h3⟩⟩
theorem Lg.c0 {w : World} {p g : Nat} {ob : List Value} {ty : TypeId} {K : Nat → Prop} {v : Value} {es : List En} {ds : List (Option Addr × Nat)} (h : Lg w p g ob ty K v es ds) : w.cell? ⟨p, 0, none⟩ = some v := by rw [cell_of_row w p 0 _ _ _ h.obj]; rfl
theorem Lg.cut {w : World} {p g cap : Nat} {ob : List Value} {ty : TypeId} {K : Nat → Prop} {es : List En} {ds : List (Option Addr × Nat)} {n : Nat} (h : Lg w p g ob ty K (.slice (some ⟨g, 0, none⟩) es.length cap) es ds) (hn : n ≤ es.length) :
    Lg (w.setCell ⟨p, 0, none⟩ (.slice (some ⟨g, 0, none⟩) n n)) p g ob ty K (.slice (some ⟨g, 0, none⟩) n n) (es.take n) (ds.take n) ∧ Sv p g w (w.setCell ⟨p, 0, none⟩ (.slice (some ⟨g, 0, none⟩) n n)) := by
  have hsz : (w.setCell ⟨p, 0, none⟩ (.slice (some ⟨g, 0, none⟩) n n)).heap.size = w.heap.size := by simp [World.setCell]
  have hk : ∀ b, b ≠ p → (w.setCell ⟨p, 0, none⟩ (.slice (some ⟨g, 0, none⟩) n n)).heap[b]? = w.heap[b]? := fun b hb => Below.heap_setCell _ _ _ _ hb
  have hl : (es.take n).length = n := by simp; omega
  have hd : (ds.take n).length = n := by simp [h.len]; omega
  refine ⟨⟨setObj h.obj, ?_, by rw [hl, hd], h.ne, fun _ => by rw [hsz]; exact h.lt rfl, ?_, fun b hb => by rw [hsz]; exact h.kk b hb⟩, ⟨rfl, rfl, rfl, by rw [hsz]; omega, fun b _ h2 _ => hk b h2⟩⟩
  · rw [hl, rowV_take _ _ _ h.len hn]
    rcases h.row.2 with ⟨h1, _⟩ | ⟨cap', cur, h1, hg, h2, h3, h4, h5⟩
    · cases h1
    · refine ⟨?_, .inr ⟨n, cur, rfl, (hk g h.ne).trans hg, Nat.le_refl _, by omega, ?_, fun h => absurd h (by omega)⟩⟩
      · rw [List.length_take, rowV_len _ _ h.len]; omega
      · rw [← h4, List.take_take, Nat.min_eq_left (by omega)]
  · intro i e d hi hd'
    rw [List.getElem?_take] at hi hd'
    split at hi
    · rename_i hin
      rw [if_pos hin] at hd'
      exact (h.data i e d hi hd').keep (fun b hb _ => hk b (h.kk b hb).2.1) (by rw [hsz]; omega) (fun _ h _ => h)
    · cases hi
/-- The log is cut to n entries. -/
theorem cut_K (w : World) (p g : Nat) (K : Nat → Prop) (v : Value) (es : List En) (ds : List (Option Addr × Nat)) (n : Nat) (h : Lg w p g [.bool true] 84 K v es ds) (hn : n ≤ es.length) :
    Calls Try.prog 86 #[.pointer (some ⟨p, 0, none⟩), .int .i64 n] w fun e w' => (∃ r, e = .returned r) ∧ ∃ v', Lg w' p g [.bool true] 84 K v' (es.take n) (ds.take n) ∧ Sv p g w w' ∧ (v.ownBlock = none → v'.ownBlock = none) := by
  have h0 := h.c0
  have hf := frozen_blk h.obj 0
  rcases h.row.2 with ⟨rfl, h2⟩ | ⟨cap, cur, rfl, hg, h2, h3, h4, h5⟩
  · have : es = [] := List.eq_nil_of_length_eq_zero h2
    subst this
    have hds : ds = [] := List.eq_nil_of_length_eq_zero h.len
    subst hds
    have : n = 0 := by simpa using hn
    subst this
    have HC := Lib.hid h
    clear h h2 hn
    go_enter Try.func86, Try.ntmps86
    go_wp2_with fail
    go_end0
    have h := HC.out
    have hsz : (w.setCell ⟨p, 0, none⟩ (.slice none 0 0)).heap.size = w.heap.size := by simp [World.setCell]
    exact ⟨⟨_, rfl⟩, _, ⟨setObj h.obj, Row.nil _ _ _ _, rfl, h.ne, (fun e => by cases e), fun i e d hi => by simp at hi, fun b hb => by rw [hsz]; exact h.kk b hb⟩, ⟨rfl, rfl, rfl, by rw [hsz]; omega, fun b _ h2 _ => Below.heap_setCell _ _ _ _ h2⟩, fun _ => rfl⟩
  · have hcap : cap ≤ 9223372036854775807 := Nat.le_trans h3 (by decide)
    have HC := Lib.hid (h.cut hn)
    have i1 : n ≤ cap := by omega
    clear h h4 h5 hg
    go_enter Try.func86, Try.ntmps86
    go_wp2_with fail
    go_end0
    exact ⟨⟨_, rfl⟩, _, HC.out.1, HC.out.2, (fun e => by cases e)⟩

/-- A log with these entries, which lies in blocks of S. -/
def LogS (S : Nat → Prop) (w : World) (p : Nat) (es : List En) : Prop := S p ∧ ∃ g K v ds, Lg w p g [.bool true] 84 K v es ds ∧ (v.ownBlock = some g → S g) ∧ ∀ b, K b → S b
theorem LogS.below {S : Nat → Prop} {p : Nat} {w w' : World} {es : List En} (h : LogS S w p es) (hb : Below w.heap.size w w') : LogS S w' p es := let ⟨h0, g, K, v, ds, h1, h2⟩ := h; ⟨h0, g, K, v, ds, h1.below hb, h2⟩
theorem LogS.keep {S : Nat → Prop} {p : Nat} {w w' : World} {es : List En} (h : LogS S w p es) (ha : Ag S w w') : LogS S w' p es :=
  let ⟨h0, g, K, v, ds, h1, h2, h3⟩ := h; ⟨h0, g, K, v, ds, h1.keep ha.size (ha.block p h1.plt h0) (fun e => ha.block g (h1.lt e) (h2 e)) (fun b hb => ha.block b (h1.kk b hb).1 (h3 b hb)), h2, h3⟩
theorem LogS.mono {S S' : Nat → Prop} {p : Nat} {w : World} {es : List En} (h : LogS S w p es) (hS : ∀ b, S b → S' b) : LogS S' w p es := let ⟨h0, g, K, v, ds, h1, h2, h3⟩ := h; ⟨hS _ h0, g, K, v, ds, h1, fun e => hS _ (h2 e), fun b hb => hS _ (h3 b hb)⟩
theorem LogS.has {S : Nat → Prop} {p : Nat} {w : World} {es : List En} (h : LogS S w p es) : Has 0 w p es := let ⟨_, g, K, v, ds, h1, _⟩ := h; ⟨g, v, ds, h1.at_, Nat.zero_le _, Nat.zero_le _⟩
theorem LogS.c1 {S : Nat → Prop} {p : Nat} {w : World} {es : List En} (h : LogS S w p es) : w.cell? ⟨p, 1, none⟩ = some (.bool true) := h.has.c1
theorem LogS.pick {S : Nat → Prop} {p : Nat} {w : World} {es : List En} (h : LogS S w p es) (N : Nat) (hN : w.heap.size ≤ N) : ∃ g K v ds, Lg w p g [.bool true] 84 K v es ds ∧ (v.ownBlock = some g → S g) ∧ (∀ b, K b → S b) ∧ (g = N ∨ S g) := by
  obtain ⟨h0, g, K, v, ds, h, h2, h3⟩ := h
  rcases h.row.2 with ⟨e1, e2⟩ | ⟨cap, cur, e1, e2, _⟩
  · have : es = [] := List.eq_nil_of_length_eq_zero e2
    subst this
    have hds : ds = [] := List.eq_nil_of_length_eq_zero h.len
    subst hds
    subst e1
    have := h.plt
    exact ⟨N, fun _ => False, _, [], ⟨h.obj, Row.nil _ _ _ _, rfl, by omega, (fun e => by cases e), fun i e d hi => by simp at hi, fun _ h => h.elim⟩, (fun e => by cases e), (fun _ h => h.elim), .inl rfl⟩
  · exact ⟨g, K, v, ds, h, h2, h3, .inr (h2 (by rw [e1]; rfl))⟩
theorem Sv.notS {p g N : Nat} {S : Nat → Prop} {w w' : World} (h : Sv p g w w') (hp : S p) (hg : g = N ∨ S g) (hN : w.heap.size ≤ N) : Ag (fun k => ¬ S k) w w' :=
  ⟨h.os, h.tape, h.output, h.size, fun k hk ho => h.block k hk (fun e => ho (by rw [e]; exact hp)) (fun e => hg.elim (fun h => by omega) (fun h => ho (by rw [e]; exact h)))⟩
theorem term_S (S : Nat → Prop) (w : World) (p : Nat) (es : List En) (i : Int) (h : LogS S w p es) :
    Calls Try.prog 43 #[.pointer (some ⟨p, 0, none⟩), .int .i64 i] w fun e w' => e = .returned (.tuple #[.int .i64 (termAt es i), .bool (hasAt es i)]) ∧ Below w.heap.size w w' := let ⟨g, v, ds, h, _⟩ := h.has; term_any w p g true v es ds i h
theorem cut_S (S : Nat → Prop) (w : World) (p : Nat) (es : List En) (n : Nat) (i : Int) (hi : i = n) (h : LogS S w p es) (hn : n ≤ es.length) :
    Calls Try.prog 86 #[.pointer (some ⟨p, 0, none⟩), .int .i64 i] w fun e w' => (∃ r, e = .returned r) ∧ LogS S w' p (es.take n) ∧ Ag (fun k => ¬ S k) w w' := by
  subst hi
  obtain ⟨g, K, v, ds, hL, h3, hk, h4⟩ := h.pick (w.heap.size) (Nat.le_refl _)
  refine (cut_K w p g K v es ds n hL hn).mono fun e w' ⟨hr, v', hL', hS, hn'⟩ => ⟨hr, ⟨h.1, g, K, v', _, hL', fun e => ?_, hk⟩, hS.notS h.1 h4 (Nat.le_refl _)⟩
  rcases hL.row.ownB with h5 | h5
  · rw [hn' h5] at e; cases e
  · exact h3 h5
theorem put_S (S : Nat → Prop) (K : Nat → Prop) (A : Option Addr) (c nl : Nat) (ns : List En) (hnl : nl = ns.length) (w : World) (p : Nat) (es : List En) (h : LogS S w p es) (ha : Ents w K A c ns) (hK : ∀ b, K b → b < w.heap.size ∧ ¬ S b) (hs : es.length + ns.length ≤ 100000) (hd : ∀ e ∈ ns, e.data.length ≤ 100000000) :
    Calls Try.prog 39 #[.pointer (some ⟨p, 0, none⟩), .slice A nl c] w fun x w' => (∃ r, x = .returned r) ∧ LogS (fun b => S b ∨ Fresh w w' b) w' p (es ++ ns) ∧ Ag (fun k => ¬ S k) w w' := by
  subst hnl
  obtain ⟨g, KL, v, ds, hL, h3, hk, h4⟩ := h.pick (w.heap.size) (Nat.le_refl _)
  have h1 := h.1
  refine (put_K K A c ns w p g v es ds KL hL ha (fun b hb => ?_) hs hd).mono ?_
  · obtain ⟨q1, q2⟩ := hK b hb
    exact ⟨q1, fun e => q2 (by rw [e]; exact h1), fun e => h4.elim (fun h => by omega) (fun h => q2 (by rw [e]; exact h))⟩
  rintro x w' ⟨hr, v', g', K', ds', hL', hS, hg, hK'⟩
  refine ⟨hr, ⟨.inl h1, g', K', v', ds', hL', fun e => ?_, fun b hb => (hK' b hb).imp (hk b) (fun h => ⟨h, (hL'.kk b hb).1⟩)⟩, hS.notS h1 h4 (Nat.le_refl _)⟩
  rcases hg with e' | e'
  · subst e'
    rcases h4 with h4 | h4
    · exact .inr ⟨by omega, hL'.lt e⟩
    · exact .inl h4
  · exact .inr ⟨e', hL'.lt e⟩
/-- The log at p, with these entries, behind a call. -/
def FitEndS (S : Nat → Prop) (w : World) (p : Nat) (es ns : List En) (i t : Int) (e : Ending) (w' : World) : Prop :=
  ∃ last chg ok es', e = .returned (.tuple #[.int .i64 last, .int .i64 chg, .bool ok]) ∧ FitP es ns i t last chg ok es' ∧ LogS (fun b => S b ∨ Fresh w w' b) w' p es' ∧ Ag (fun k => ¬ S k) w w'

set_option maxRecDepth 100000 in
set_option maxHeartbeats 2000000 in
theorem FitS_any (S : Nat → Prop) (K : Nat → Prop) (A : Option Addr) (c : Nat) (ns : List En) (w : World) (p : Nat) (es : List En) (i t : Int) (h : LogS S w p es) (ha : Ents w K A c ns) (hK : ∀ b, K b → b < w.heap.size ∧ ¬ S b) (hs : es.length + ns.length ≤ 100000) (hd : ∀ e ∈ ns, e.data.length ≤ 100000000) :
    Calls Try.prog 67 #[.pointer (some ⟨p, 0, none⟩), .int .i64 i, .int .i64 t, .slice A ns.length c] w (FitEndS S w p es ns i t) := by
  have hc1 := h.c1
  by_cases h1 : hasAt es i = true
  · by_cases h2 : termAt es i = t
    · have q : 0 ≤ i ∧ i ≤ es.length := by simpa [hasAt] using h1
      have t1 : (termAt es i != t) = false := by simp [h2]
      have H1 := Lib.hid h1
      have H2 := Lib.hid h2
      obtain ⟨n, rfl⟩ : ∃ n : Nat, i = n := ⟨i.toNat, by omega⟩
      obtain ⟨q1, q2⟩ := q
      clear h2
      go_enter Try.func67, Try.ntmps67
      go_wp2_with (first
        | (go_at_call 42; refine (known_true p w hc1).mono ?_; rintro _ w1 ⟨rfl, rfl⟩)
        | (go_at_call 43; refine (term_S S w p es _ h).mono ?_; rintro _ w2 ⟨rfl, hb⟩))
      have hwb := hb
      have hh := h.below hb
      have haw : Ents w2 K A c ns := ha.keep (fun b hb' => hwb.block b (hK b hb').1) (fun _ h => h)
      have hB2 : w.heap.size ≤ w2.heap.size := hb.size
      clear hb h ha hc1 h1
      go_loopw [8, 42] (fun l v wr => ∃ k : Nat, k ≤ ns.length ∧ l = .int .i64 ((n : Int) + ns.length) ∧ v = .int .i64 k ∧ Hid (∀ j, j < k → FitJ es ns n j) ∧ Below w2.heap.size w2 wr) (fun _ v _ => ns.length - (intOf v).toNat)
      case atStart => exact ⟨0, Nat.zero_le _, rfl, rfl, fun j hj => absurd hj (by omega), Below.refl _ _⟩
      case round =>
        obtain ⟨k, hk, rfl, rfl, HF, hbr⟩ := hrel
        by_cases hlt : k < ns.length
        · have d1 : decide ((k : Int) < (ns.length : Int)) = true := decide_eq_true (by omega)
          obtain ⟨a, y, D, d, rfl, ka, hy, ca, ra, la, ma⟩ := (haw.keep (K' := K) (fun b hb' => hbr.block b (by have := (hK b hb').1; omega)) (fun _ h => h)).at_ hlt
          obtain ⟨a0, a1, a2, a3, a4, a5⟩ := en6 ca
          clear ca
          have hbA : Below wr.heap.size wr (wr.alloc (.cells #[.int .i64 y.term, .int .u8 y.kind, .int .i64 y.ver, .int .i64 y.srv, .bool y.good, .slice D y.data.length d] 44)) := (Below.refl _ _).alloc (Nat.le_refl _) _
          have hpr := (hh.below hbr).below hbA
          by_cases hin : n + k < es.length
          · have hx := List.getElem?_eq_getElem hin
            generalize es[n + k] = x at hx
            have HT := Lib.hid (fit_term hx)
            have HH : Hid (hasAt es ((n : Int) + 1 + k) = true) := by rw [fit_has]; exact decide_eq_true hin
            have HX := Lib.hid hx
            clear hx
            by_cases hxy : x.term = y.term
            · have t2 : (x.term != y.term) = false := by simp [hxy]
              have HF2 : Hid (∀ j, j < k + 1 → FitJ es ns n j) := by
                intro j hj
                rcases Nat.lt_or_ge j k with h1 | h1
                · exact HF.out j h1
                · obtain rfl : j = k := by omega
                  exact ⟨x, y, HX.out, hy.out, hxy⟩
              clear hxy
              go_wp2_with (go_at_call 43; refine (term_S S _ p es _ hpr).mono ?_; rintro _ w3 ⟨rfl, hb3⟩; rw [HT.out, HH.out]; have cy : w3.cell? ⟨wr.heap.size, 0, none⟩ = some (.int .i64 y.term) := by { rw [World.cell?_of_block (hb3.block _ (by simp))]; exact (cells6 (heap_alloc_new wr _)).1 })
              go_roundw
              case rel => exact ⟨k + 1, by omega, rfl, by go_num, HF2, hbr.trans ((hbA.trans (hb3.mono hbA.size)).mono hbr.size)⟩
              case measure => simp [intOf]; omega
            · have t2 : (x.term != y.term) = true := by simp [hxy]
              have HN := Lib.hid (fit_no HX.out hy.out hxy)
              clear hxy
              go_wp2_with (go_at_call 43; refine (term_S S _ p es _ hpr).mono ?_; rintro _ w3 ⟨rfl, hb3⟩; rw [HT.out, HH.out]; have cy : w3.cell? ⟨wr.heap.size, 0, none⟩ = some (.int .i64 y.term) := by { rw [World.cell?_of_block (hb3.block _ (by simp))]; exact (cells6 (heap_alloc_new wr _)).1 })
              have hB3 : w.heap.size ≤ w3.heap.size := Nat.le_trans (Nat.le_trans hB2 hbr.size) (Nat.le_trans hbA.size hb3.size)
              have hbw : Below w.heap.size w w3 := hwb.trans ((hbr.mono hB2).trans ((hbA.mono (by have := hbr.size; omega)).trans (hb3.mono (by have := hbr.size; simp; omega))))
              have hle := fit_le HF.out (by omega : n ≤ es.length)
              refine (cut_S S w3 p es (n + k) _ (by omega) (hpr.below hb3) hle).mono ?_
              rintro _ w4 ⟨⟨r, rfl⟩, h4, hb4⟩
              have hB4 : w.heap.size ≤ w4.heap.size := Nat.le_trans hB3 hb4.size
              have hbw4 := (Ag.of_below (fun k => ¬ S k) hbw).trans hb4
              have ha4 : Ents w4 K (some a) c ns := haw.keep (fun b hb' => (hbw4.block b (hK b hb').1 (hK b hb').2).trans (hwb.block b (hK b hb').1).symm) (fun _ h => h)
              have hdr := ha4.drop k (by omega) (by have := ha4.2.1; omega)
              have hcap : k ≤ c := by have := ha4.2.1; omega
              have hcm : c ≤ 9223372036854775807 := Nat.le_trans ha4.2.2.1 (by decide)
              have hne : ¬ c = k := by have := ha4.2.1; omega
              have hlen : (es.take (n + k)).length + (ns.drop k).length ≤ 100000 := by simp; omega
              have HP := put_S S K (some (a.add (k * 6))) (c - k) (ns.length - k) (ns.drop k) (by simp) w4.drew p (es.take (n + k)) (h4.below ((Below.refl _ w4).drew)) (hdr.keep (fun _ _ => rfl) (fun _ h => h)) (fun b hb' => ⟨Nat.lt_of_lt_of_le (hK b hb').1 hB4, (hK b hb').2⟩) hlen (fun e he => hd e (List.mem_of_mem_drop he))
              clear ha4 hdr hpr hbA haw hb3 hb4 hbw h4
              go_wp2_with fail
              go_still_tail 6, (by kernel_rfl)
              go_wp2_with fail
              refine HP.mono ?_
              rintro _ w5 ⟨⟨r5, rfl⟩, h5, hb5⟩
              clear HP
              go_wp2_with fail
              go_ret3
              exact ⟨_, _, true, _, rfl, .inr ⟨H1.out, H2.out, rfl, rfl, .inr ⟨k, hlt, HF.out, HN.out, hle, rfl, rfl⟩⟩, h5.mono (fun b hb => hb.imp id (fun h => ⟨Nat.le_trans hB4 h.1, h.2⟩)), hbw4.drew.trans hb5⟩
          · have HH : Hid (hasAt es ((n : Int) + 1 + k) = false) := by rw [fit_has]; exact decide_eq_false hin
            have HN := Lib.hid (fit_out (ns := ns) hin)
            go_wp2_with (go_at_call 43; refine (term_S S _ p es _ hpr).mono ?_; rintro _ w3 ⟨rfl, hb3⟩; rw [HH.out])
            have hB3 : w.heap.size ≤ w3.heap.size := Nat.le_trans (Nat.le_trans hB2 hbr.size) (Nat.le_trans hbA.size hb3.size)
            have hbw : Below w.heap.size w w3 := hwb.trans ((hbr.mono hB2).trans ((hbA.mono (by have := hbr.size; omega)).trans (hb3.mono (by have := hbr.size; simp; omega))))
            have hle := fit_le HF.out (by omega : n ≤ es.length)
            refine (cut_S S w3 p es (n + k) _ (by omega) (hpr.below hb3) hle).mono ?_
            rintro _ w4 ⟨⟨r, rfl⟩, h4, hb4⟩
            have hB4 : w.heap.size ≤ w4.heap.size := Nat.le_trans hB3 hb4.size
            have hbw4 := (Ag.of_below (fun k => ¬ S k) hbw).trans hb4
            have ha4 : Ents w4 K (some a) c ns := haw.keep (fun b hb' => (hbw4.block b (hK b hb').1 (hK b hb').2).trans (hwb.block b (hK b hb').1).symm) (fun _ h => h)
            have hdr := ha4.drop k (by omega) (by have := ha4.2.1; omega)
            have hcap : k ≤ c := by have := ha4.2.1; omega
            have hcm : c ≤ 9223372036854775807 := Nat.le_trans ha4.2.2.1 (by decide)
            have hne : ¬ c = k := by have := ha4.2.1; omega
            have hlen : (es.take (n + k)).length + (ns.drop k).length ≤ 100000 := by simp; omega
            have HP := put_S S K (some (a.add (k * 6))) (c - k) (ns.length - k) (ns.drop k) (by simp) w4.drew p (es.take (n + k)) (h4.below ((Below.refl _ w4).drew)) (hdr.keep (fun _ _ => rfl) (fun _ h => h)) (fun b hb' => ⟨Nat.lt_of_lt_of_le (hK b hb').1 hB4, (hK b hb').2⟩) hlen (fun e he => hd e (List.mem_of_mem_drop he))
            clear ha4 hdr hpr hbA haw hb3 hb4 hbw h4
            go_wp2_with fail
            go_still_tail 6, (by kernel_rfl)
            go_wp2_with fail
            refine HP.mono ?_
            rintro _ w5 ⟨⟨r5, rfl⟩, h5, hb5⟩
            clear HP
            go_wp2_with fail
            go_ret3
            exact ⟨_, _, true, _, rfl, .inr ⟨H1.out, H2.out, rfl, rfl, .inr ⟨k, hlt, HF.out, HN.out, hle, rfl, rfl⟩⟩, h5.mono (fun b hb => hb.imp id (fun h => ⟨Nat.le_trans hB4 h.1, h.2⟩)), hbw4.drew.trans hb5⟩
        · have d1 : decide ((k : Int) < (ns.length : Int)) = false := decide_eq_false (by omega)
          go_wp2_with fail
          go_ret3
          exact ⟨_, 0, true, es, rfl, .inr ⟨H1.out, H2.out, rfl, rfl, .inl ⟨fun j hj => HF.out j (by omega), rfl, rfl⟩⟩, (hh.below hbr).mono (fun b hb => .inl hb), Ag.of_below _ (hwb.trans (hbr.mono hB2))⟩
    · have t1 : (termAt es i != t) = true := by simp [h2]
      go_enter Try.func67, Try.ntmps67
      go_wp2_with (first
        | (go_at_call 42; refine (known_true p w hc1).mono ?_; rintro _ w1 ⟨rfl, rfl⟩)
        | (go_at_call 43; refine (term_S S w p es i h).mono ?_; rintro _ w2 ⟨rfl, hb⟩))
      go_ret3
      exact ⟨0, 0, false, es, rfl, .inl ⟨fun h => h2 h.2, rfl, rfl, rfl, rfl⟩, (h.below hb).mono (fun b hb => .inl hb), Ag.of_below _ hb⟩
  · have h1' : hasAt es i = false := by simpa using h1
    go_enter Try.func67, Try.ntmps67
    go_wp2_with (first
      | (go_at_call 42; refine (known_true p w hc1).mono ?_; rintro _ w1 ⟨rfl, rfl⟩)
      | (go_at_call 43; refine (term_S S w p es i h).mono ?_; rintro _ w2 ⟨rfl, hb⟩))
    go_ret3
    exact ⟨0, 0, false, es, rfl, .inl ⟨fun h => h1 h.1, rfl, rfl, rfl, rfl⟩, (h.below hb).mono (fun b hb => .inl hb), Ag.of_below _ hb⟩

theorem NewS_any (A : Option Addr) (c : Nat) (ns : List En) (w : World) (ha : Ents w (fun b => b < w.heap.size) A c ns) (hs : ns.length ≤ 100000) (hd : ∀ e ∈ ns, e.data.length ≤ 100000000) :
    Calls Try.prog 20 #[.slice A ns.length c] w fun x w' => ∃ p, x = .returned (.pointer (some ⟨p, 0, none⟩)) ∧ LogS (Fresh w w') w' p ns ∧ Below w.heap.size w w' := by
  have hL : Lg (w.alloc (.cells #[.slice none 0 0, .bool true] 84)) w.heap.size (w.heap.size + 1) [.bool true] 84 (fun _ => False) (.slice none 0 0) [] [] :=
    ⟨heap_alloc_new w _, Row.nil _ _ _ _, rfl, by omega, (fun e => by cases e), fun i e d hi => by simp at hi, fun _ h => h.elim⟩
  have hb0 : Below w.heap.size w (w.alloc (.cells #[.slice none 0 0, .bool true] 84)) := (Below.refl _ _).alloc (Nat.le_refl _) _
  go_enter Try.func20, Try.ntmps20
  go_wp2_with (go_at_call 39; refine (put_K (fun b => b < w.heap.size) A c ns _ _ _ _ _ _ _ hL (ha.keep (fun b hb => hb0.block b hb) (fun _ h => h)) (fun b hb => ⟨by simp; omega, by omega, by omega⟩) (by simpa using hs) hd).mono ?_; rintro _ w1 ⟨⟨r, rfl⟩, v', g', K', ds', hL', hS, hg, hK'⟩)
  go_ret
  refine ⟨_, rfl, ⟨⟨Nat.le_refl _, hL'.plt⟩, g', K', v', ds', by simpa using hL', fun e => ⟨?_, hL'.lt e⟩, fun b hb => ⟨?_, (hL'.kk b hb).1⟩⟩, hb0.trans (hS.below (Nat.le_refl _) (by omega) (by simp))⟩
  · rcases hg with h | h
    · omega
    · simp at h; omega
  · rcases hK' b hb with h | h
    · exact h.elim
    · simp at h; omega
end Go.Proofs.Ythfofnfkopnbhaa
namespace Go.Proofs.Ythfofnfkopnbhaa
open Go.RowKit
set_option linter.unusedVariables false
set_option maxRecDepth 100000

theorem PutS_any (S K : Nat → Prop) (w : World) (p : Nat) (es : List En) (e : En) (A : Option Addr) (c : Nat) (h : LogS S w p es) (hSb : ∀ b, S b → b < w.heap.size) (ha : Rd w K A c (u8s e.data)) (hK : ∀ b, K b → b < w.heap.size ∧ ¬ S b) (hl : e.data.length ≤ c) (hc : c ≤ maxLen) (hs : es.length + 1 ≤ 100000) (hd : e.data.length ≤ 100000000) :
    Calls Try.prog 45 #[.pointer (some ⟨p, 0, none⟩), enA e A c] w fun x w' => x = .returned (.int .i64 (es.length + 1)) ∧ LogS (fun b => S b ∨ Fresh w w' b) w' p (es ++ [e]) ∧ Ag (fun k => ¬ S k) w w' := by
  have hbA : Below w.heap.size w (w.alloc (.cells #[.int .i64 e.term, .int .u8 e.kind, .int .i64 e.ver, .int .i64 e.srv, .bool e.good, .slice A e.data.length c] 44)) := (Below.refl _ _).alloc (Nat.le_refl _) _
  have hA := h.below hbA
  go_enter Try.func45, Try.ntmps45
  unfold enA enV
  go_wp2_with (go_at_call 42; refine (known_true p _ hA.c1).mono ?_; rintro _ w1 ⟨rfl, rfl⟩)
  obtain ⟨c0, c1, c2, c3, c4, c5⟩ := cells6 (heap_alloc_new w (Obj.cells #[.int .i64 e.term, .int .u8 e.kind, .int .i64 e.ver, .int .i64 e.srv, .bool e.good, .slice A e.data.length c] 44))
  have hsz : (w.alloc (.cells #[.int .i64 e.term, .int .u8 e.kind, .int .i64 e.ver, .int .i64 e.srv, .bool e.good, .slice A e.data.length c] 44)).heap.size = w.heap.size + 1 := by simp
  generalize (w.alloc (.cells #[.int .i64 e.term, .int .u8 e.kind, .int .i64 e.ver, .int .i64 e.srv, .bool e.good, .slice A e.data.length c] 44)) = wa at *
  have HZ := Lib.hid hsz
  clear hsz
  have hra : Rd wa K A c (u8s e.data) := ha.keep (fun b hb => hbA.block b (hK b hb).1) (fun _ h => h)
  have hcon : ∀ W, Below wa.heap.size wa W → W.heap[wa.heap.size]? = some (.cells (enV e A c).toArray 44 (0, 0)) → Calls Try.prog 39 #[.pointer (some ⟨p, 0, none⟩), .slice (some ⟨wa.heap.size, 0, none⟩) 1 1] W fun x w' => (∃ r, x = .returned r) ∧ LogS (fun b => S b ∨ Fresh w w' b) w' p (es ++ [e]) ∧ Ag (fun k => ¬ S k) w w' := by
    intro W hb hg'
    have hz := HZ.out
    have hW := (Array.getElem?_eq_some_iff.1 hg').1
    have hbw : Below w.heap.size w W := hbA.trans (hb.mono hbA.size)
    refine (put_S S (fun b => K b ∨ b = wa.heap.size) (some ⟨wa.heap.size, 0, none⟩) 1 1 [e] rfl W p es (hA.below hb) (ents_one W _ e A c _ hg' (hra.keep (fun b h => hb.block b (by have := (hK b h).1; omega)) (fun b h => .inl h)) hl hc (.inr rfl)) (fun b h => ?_) hs (fun x hx => by simp at hx; rw [hx]; exact hd)).mono ?_
    · rcases h with h | h
      · exact ⟨by have := (hK b h).1; omega, (hK b h).2⟩
      · exact ⟨by omega, fun h' => by have := hSb b h'; omega⟩
    · rintro x w' ⟨hr, h1, h2⟩
      exact ⟨hr, h1.mono (fun b hb' => hb'.imp id (fun h => ⟨Nat.le_trans hbw.size h.1, h.2⟩)), (Ag.of_below _ hbw).trans h2⟩
  clear hbA hra h ha
  go_region_law ((go_simp; go_at_call 39; refine (hcon _ (((Below.refl _ _).drew).alloc (Nat.le_refl _) _) (heap_alloc_new wa.drew _)).mono ?_; rintro _ w3 ⟨⟨r, rfl⟩, hL, hB'⟩; obtain ⟨A', cc, o0⟩ := hL.has.c0))
  all_goals
    go_wp2_with fail
    go_ret
    exact ⟨by simp, hL, hB'⟩
end Go.Proofs.Ythfofnfkopnbhaa
