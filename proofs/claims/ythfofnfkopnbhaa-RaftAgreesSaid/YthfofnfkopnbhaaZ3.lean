/- Fit, of entries that lie anywhere but in the log. What Fit tells, as a function. -/
import Derived.Test.YthfofnfkopnbhaaFit
import Derived.Test.YthfofnfkopnbhaaSeq
namespace Go.Proofs.Ythfofnfkopnbhaa
open Go.RowKit
set_option linter.unusedVariables false
set_option maxRecDepth 100000

/-- A log with these entries, which lies between the blocks B and T. -/
def HasT (B T : Nat) (w : World) (p : Nat) (es : List En) : Prop := B ≤ p ∧ p < T ∧ ∃ g v ds, LogAt w p g true v es ds ∧ (v.ownBlock = some g → B ≤ g ∧ g < T)
theorem HasT.below {B T p : Nat} {w w' : World} {es : List En} (h : HasT B T w p es) (hb : Below w.heap.size w w') : HasT B T w' p es := let ⟨h1, h2, g, v, ds, h3, h4⟩ := h; ⟨h1, h2, g, v, ds, h3.below hb, h4⟩
theorem HasT.c1 {B T p : Nat} {w : World} {es : List En} (h : HasT B T w p es) : w.cell? ⟨p, 1, none⟩ = some (.bool true) := let ⟨_, _, _, _, _, h, _⟩ := h; h.c1
theorem HasT.plt {B T p : Nat} {w : World} {es : List En} (h : HasT B T w p es) : p < w.heap.size := let ⟨_, _, _, _, _, h, _⟩ := h; h.plt
theorem HasT.has {B T p : Nat} {w : World} {es : List En} (h : HasT B T w p es) : Has 0 w p es := let ⟨_, _, g, v, ds, h, _⟩ := h; ⟨g, v, ds, h, Nat.zero_le _, Nat.zero_le _⟩
theorem HasT.mono {B T B' T' p : Nat} {w : World} {es : List En} (h : HasT B T w p es) (hB : B' ≤ B) (hT : T ≤ T') : HasT B' T' w p es := let ⟨h1, h2, g, v, ds, h3, h4⟩ := h; ⟨by omega, by omega, g, v, ds, h3, fun e => by have := h4 e; omega⟩
theorem HasT.pick {B T p : Nat} {w : World} {es : List En} (h : HasT B T w p es) (N : Nat) (hN : w.heap.size ≤ N) : ∃ g v ds, LogAt w p g true v es ds ∧ (v.ownBlock = some g → B ≤ g ∧ g < T) ∧ (g = N ∨ (B ≤ g ∧ g < T)) := by
  obtain ⟨h1, h2, g, v, ds, h, h4⟩ := h
  rcases h.row.2 with ⟨e1, e2⟩ | ⟨cap, cur, e1, e2, _⟩
  · have : es = [] := List.eq_nil_of_length_eq_zero e2
    subst this
    have hds : ds = [] := List.eq_nil_of_length_eq_zero h.len
    subst hds
    subst e1
    have := h.plt
    exact ⟨N, _, [], ⟨h.obj, Row.nil _ _ _ _, rfl, by omega, (fun e => by cases e), fun i e d hi => by simp at hi⟩, (fun e => by cases e), .inl rfl⟩
  · exact ⟨g, v, ds, h, h4, .inr (h4 (by rw [e1]; rfl))⟩
/-- All that lies outside of B to T stays. -/
def Out (B T : Nat) (k : Nat) : Prop := k < B ∨ T ≤ k
theorem Sv.out {p g B T N : Nat} {w w' : World} (h : Sv p g w w') (hp : B ≤ p ∧ p < T) (hg : g = N ∨ (B ≤ g ∧ g < T)) (hN : w.heap.size ≤ N) : Ag (Out B T) w w' := ⟨h.os, h.tape, h.output, h.size, fun k hk ho => h.block k hk (by rcases ho with h | h <;> omega) (by rcases ho with h | h <;> omega)⟩
theorem term_hasT (B T : Nat) (w : World) (p : Nat) (es : List En) (i : Int) (h : HasT B T w p es) :
    Calls Try.prog 43 #[.pointer (some ⟨p, 0, none⟩), .int .i64 i] w fun e w' => e = .returned (.tuple #[.int .i64 (termAt es i), .bool (hasAt es i)]) ∧ Below w.heap.size w w' := let ⟨_, _, g, v, ds, h, _⟩ := h; term_any w p g true v es ds i h
theorem cut_hasT (B T : Nat) (w : World) (p : Nat) (es : List En) (n : Nat) (i : Int) (hi : i = n) (h : HasT B T w p es) (hn : n ≤ es.length) :
    Calls Try.prog 86 #[.pointer (some ⟨p, 0, none⟩), .int .i64 i] w fun e w' => (∃ r, e = .returned r) ∧ HasT B T w' p (es.take n) ∧ Ag (Out B T) w w' := by
  subst hi
  obtain ⟨g, v, ds, hL, h3, h4⟩ := h.pick (w.heap.size) (Nat.le_refl _)
  refine (cut_any w p g true v es ds n hL hn).mono fun e w' ⟨hr, v', hL', hS, hn'⟩ => ⟨hr, ⟨h.1, h.2.1, g, v', _, hL', fun e => ?_⟩, hS.out ⟨h.1, h.2.1⟩ h4 (Nat.le_refl _)⟩
  rcases hL.row.ownB with h5 | h5
  · rw [hn' h5] at e; cases e
  · exact h3 h5
theorem put_hasT (B T : Nat) (K : Nat → Prop) (A : Option Addr) (c nl : Nat) (ns : List En) (hnl : nl = ns.length) (w : World) (p : Nat) (es : List En) (h : HasT B T w p es) (ha : Ents w K A c ns) (hK : ∀ b, K b → b < w.heap.size ∧ Out B T b) (hs : es.length + ns.length ≤ 100000) (hd : ∀ e ∈ ns, e.data.length ≤ 100000000) :
    Calls Try.prog 39 #[.pointer (some ⟨p, 0, none⟩), .slice A nl c] w fun x w' => (∃ r, x = .returned r) ∧ HasT B w'.heap.size w' p (es ++ ns) ∧ Ag (Out B T) w w' := by
  subst hnl
  obtain ⟨g, v, ds, hL, h3, h4⟩ := h.pick (w.heap.size) (Nat.le_refl _)
  have h1 := h.1
  have h2 := h.2.1
  have hp := hL.plt
  refine (put_any K A c ns w p g v es ds hL ha (fun b hb => ?_) hs hd).mono ?_
  · obtain ⟨q1, q2⟩ := hK b hb
    exact ⟨q1, by rcases q2 with h | h <;> omega, by rcases q2 with h | h <;> omega⟩
  rintro x w' ⟨hr, v', g', ds', hL', hS, hg⟩
  exact ⟨hr, ⟨h1, hL'.plt, g', v', ds', hL', fun e => ⟨by omega, hL'.lt e⟩⟩, hS.out ⟨h1, h2⟩ h4 (Nat.le_refl _)⟩
/-- The log at p, with these entries, behind a call. -/
def FitEndT (B T : Nat) (w : World) (p : Nat) (es ns : List En) (i t : Int) (e : Ending) (w' : World) : Prop :=
  ∃ last chg ok es', e = .returned (.tuple #[.int .i64 last, .int .i64 chg, .bool ok]) ∧ FitP es ns i t last chg ok es' ∧ HasT B w'.heap.size w' p es' ∧ Ag (Out B T) w w'

set_option maxRecDepth 100000 in
set_option maxHeartbeats 2000000 in
theorem FitT_any (B T : Nat) (K : Nat → Prop) (A : Option Addr) (c : Nat) (ns : List En) (w : World) (p : Nat) (es : List En) (i t : Int) (h : HasT B T w p es) (ha : Ents w K A c ns) (hK : ∀ b, K b → b < w.heap.size ∧ Out B T b) (hT : T ≤ w.heap.size) (hs : es.length + ns.length ≤ 100000) (hd : ∀ e ∈ ns, e.data.length ≤ 100000000) :
    Calls Try.prog 67 #[.pointer (some ⟨p, 0, none⟩), .int .i64 i, .int .i64 t, .slice A ns.length c] w (FitEndT B T w p es ns i t) := by
  have hc1 := h.c1
  by_cases h1 : hasAt es i = true
  · by_cases h2 : termAt es i = t
    · have q : 0 ≤ i ∧ i ≤ es.length := by simpa [hasAt] using h1
      have t1 : (termAt es i != t) = false := by simp [h2]
      have H1 := Lib.hid h1
      have H2 := Lib.hid h2
      obtain ⟨n, rfl⟩ : ∃ n : Nat, i = n := ⟨i.toNat, by omega⟩
      obtain ⟨q1, q2⟩ := q
      clear h2
      go_enter Try.func67, Try.ntmps67
      go_wp2_with (first
        | (go_at_call 42; refine (known_true p w hc1).mono ?_; rintro _ w1 ⟨rfl, rfl⟩)
        | (go_at_call 43; refine (term_hasT B T w p es _ h).mono ?_; rintro _ w2 ⟨rfl, hb⟩))
      have hwb := hb
      have hh := h.below hb
      have haw : Ents w2 K A c ns := ha.keep (fun b hb' => hwb.block b (hK b hb').1) (fun _ h => h)
      have hB2 : w.heap.size ≤ w2.heap.size := hb.size
      clear hb h ha hc1 h1
      go_loopw [8, 42] (fun l v wr => ∃ k : Nat, k ≤ ns.length ∧ l = .int .i64 ((n : Int) + ns.length) ∧ v = .int .i64 k ∧ Hid (∀ j, j < k → FitJ es ns n j) ∧ Below w2.heap.size w2 wr) (fun _ v _ => ns.length - (intOf v).toNat)
      case atStart => exact ⟨0, Nat.zero_le _, rfl, rfl, fun j hj => absurd hj (by omega), Below.refl _ _⟩
      case round =>
        obtain ⟨k, hk, rfl, rfl, HF, hbr⟩ := hrel
        by_cases hlt : k < ns.length
        · have d1 : decide ((k : Int) < (ns.length : Int)) = true := decide_eq_true (by omega)
          obtain ⟨a, y, D, d, rfl, ka, hy, ca, ra, la, ma⟩ := (haw.keep (K' := K) (fun b hb' => hbr.block b (by have := (hK b hb').1; omega)) (fun _ h => h)).at_ hlt
          obtain ⟨a0, a1, a2, a3, a4, a5⟩ := en6 ca
          clear ca
          have hbA : Below wr.heap.size wr (wr.alloc (.cells #[.int .i64 y.term, .int .u8 y.kind, .int .i64 y.ver, .int .i64 y.srv, .bool y.good, .slice D y.data.length d] 44)) := (Below.refl _ _).alloc (Nat.le_refl _) _
          have hpr := (hh.below hbr).below hbA
          by_cases hin : n + k < es.length
          · have hx := List.getElem?_eq_getElem hin
            generalize es[n + k] = x at hx
            have HT := Lib.hid (fit_term hx)
            have HH : Hid (hasAt es ((n : Int) + 1 + k) = true) := by rw [fit_has]; exact decide_eq_true hin
            have HX := Lib.hid hx
            clear hx
            by_cases hxy : x.term = y.term
            · have t2 : (x.term != y.term) = false := by simp [hxy]
              have HF2 : Hid (∀ j, j < k + 1 → FitJ es ns n j) := by
                intro j hj
                rcases Nat.lt_or_ge j k with h1 | h1
                · exact HF.out j h1
                · obtain rfl : j = k := by omega
                  exact ⟨x, y, HX.out, hy.out, hxy⟩
              clear hxy
              go_wp2_with (go_at_call 43; refine (term_hasT B T _ p es _ hpr).mono ?_; rintro _ w3 ⟨rfl, hb3⟩; rw [HT.out, HH.out]; have cy : w3.cell? ⟨wr.heap.size, 0, none⟩ = some (.int .i64 y.term) := by { rw [World.cell?_of_block (hb3.block _ (by simp))]; exact (cells6 (heap_alloc_new wr _)).1 })
              go_roundw
              case rel => exact ⟨k + 1, by omega, rfl, by go_num, HF2, hbr.trans ((hbA.trans (hb3.mono hbA.size)).mono hbr.size)⟩
              case measure => simp [intOf]; omega
            · have t2 : (x.term != y.term) = true := by simp [hxy]
              have HN := Lib.hid (fit_no HX.out hy.out hxy)
              clear hxy
              go_wp2_with (go_at_call 43; refine (term_hasT B T _ p es _ hpr).mono ?_; rintro _ w3 ⟨rfl, hb3⟩; rw [HT.out, HH.out]; have cy : w3.cell? ⟨wr.heap.size, 0, none⟩ = some (.int .i64 y.term) := by { rw [World.cell?_of_block (hb3.block _ (by simp))]; exact (cells6 (heap_alloc_new wr _)).1 })
              have hB3 : w.heap.size ≤ w3.heap.size := Nat.le_trans (Nat.le_trans hB2 hbr.size) (Nat.le_trans hbA.size hb3.size)
              have hbw : Below w.heap.size w w3 := hwb.trans ((hbr.mono hB2).trans ((hbA.mono (by have := hbr.size; omega)).trans (hb3.mono (by have := hbr.size; simp; omega))))
              have hle := fit_le HF.out (by omega : n ≤ es.length)
              refine (cut_hasT B T w3 p es (n + k) _ (by omega) (hpr.below hb3) hle).mono ?_
              rintro _ w4 ⟨⟨r, rfl⟩, h4, hb4⟩
              have hB4 : w.heap.size ≤ w4.heap.size := Nat.le_trans hB3 hb4.size
              have hbw4 := (Ag.of_below (Out B T) hbw).trans hb4
              have ha4 : Ents w4 K (some a) c ns := haw.keep (fun b hb' => (hbw4.block b (hK b hb').1 (hK b hb').2).trans (hwb.block b (hK b hb').1).symm) (fun _ h => h)
              have hdr := ha4.drop k (by omega) (by have := ha4.2.1; omega)
              have hcap : k ≤ c := by have := ha4.2.1; omega
              have hcm : c ≤ 9223372036854775807 := Nat.le_trans ha4.2.2.1 (by decide)
              have hne : ¬ c = k := by have := ha4.2.1; omega
              have hlen : (es.take (n + k)).length + (ns.drop k).length ≤ 100000 := by simp; omega
              have HP := put_hasT B T K (some (a.add (k * 6))) (c - k) (ns.length - k) (ns.drop k) (by simp) w4.drew p (es.take (n + k)) (h4.below ((Below.refl _ w4).drew)) (hdr.keep (fun _ _ => rfl) (fun _ h => h)) (fun b hb' => ⟨Nat.lt_of_lt_of_le (hK b hb').1 hB4, (hK b hb').2⟩) hlen (fun e he => hd e (List.mem_of_mem_drop he))
              clear ha4 hdr hpr hbA haw hb3 hb4 hbw h4
              go_wp2_with fail
              go_still_tail 6, (by kernel_rfl)
              go_wp2_with fail
              refine HP.mono ?_
              rintro _ w5 ⟨⟨r5, rfl⟩, h5, hb5⟩
              clear HP
              go_wp2_with fail
              go_ret3
              exact ⟨_, _, true, _, rfl, .inr ⟨H1.out, H2.out, rfl, rfl, .inr ⟨k, hlt, HF.out, HN.out, hle, rfl, rfl⟩⟩, h5, hbw4.drew.trans hb5⟩
          · have HH : Hid (hasAt es ((n : Int) + 1 + k) = false) := by rw [fit_has]; exact decide_eq_false hin
            have HN := Lib.hid (fit_out (ns := ns) hin)
            go_wp2_with (go_at_call 43; refine (term_hasT B T _ p es _ hpr).mono ?_; rintro _ w3 ⟨rfl, hb3⟩; rw [HH.out])
            have hB3 : w.heap.size ≤ w3.heap.size := Nat.le_trans (Nat.le_trans hB2 hbr.size) (Nat.le_trans hbA.size hb3.size)
            have hbw : Below w.heap.size w w3 := hwb.trans ((hbr.mono hB2).trans ((hbA.mono (by have := hbr.size; omega)).trans (hb3.mono (by have := hbr.size; simp; omega))))
            have hle := fit_le HF.out (by omega : n ≤ es.length)
            refine (cut_hasT B T w3 p es (n + k) _ (by omega) (hpr.below hb3) hle).mono ?_
            rintro _ w4 ⟨⟨r, rfl⟩, h4, hb4⟩
            have hB4 : w.heap.size ≤ w4.heap.size := Nat.le_trans hB3 hb4.size
            have hbw4 := (Ag.of_below (Out B T) hbw).trans hb4
            have ha4 : Ents w4 K (some a) c ns := haw.keep (fun b hb' => (hbw4.block b (hK b hb').1 (hK b hb').2).trans (hwb.block b (hK b hb').1).symm) (fun _ h => h)
            have hdr := ha4.drop k (by omega) (by have := ha4.2.1; omega)
            have hcap : k ≤ c := by have := ha4.2.1; omega
            have hcm : c ≤ 9223372036854775807 := Nat.le_trans ha4.2.2.1 (by decide)
            have hne : ¬ c = k := by have := ha4.2.1; omega
            have hlen : (es.take (n + k)).length + (ns.drop k).length ≤ 100000 := by simp; omega
            have HP := put_hasT B T K (some (a.add (k * 6))) (c - k) (ns.length - k) (ns.drop k) (by simp) w4.drew p (es.take (n + k)) (h4.below ((Below.refl _ w4).drew)) (hdr.keep (fun _ _ => rfl) (fun _ h => h)) (fun b hb' => ⟨Nat.lt_of_lt_of_le (hK b hb').1 hB4, (hK b hb').2⟩) hlen (fun e he => hd e (List.mem_of_mem_drop he))
            clear ha4 hdr hpr hbA haw hb3 hb4 hbw h4
            go_wp2_with fail
            go_still_tail 6, (by kernel_rfl)
            go_wp2_with fail
            refine HP.mono ?_
            rintro _ w5 ⟨⟨r5, rfl⟩, h5, hb5⟩
            clear HP
            go_wp2_with fail
            go_ret3
            exact ⟨_, _, true, _, rfl, .inr ⟨H1.out, H2.out, rfl, rfl, .inr ⟨k, hlt, HF.out, HN.out, hle, rfl, rfl⟩⟩, h5, hbw4.drew.trans hb5⟩
        · have d1 : decide ((k : Int) < (ns.length : Int)) = false := decide_eq_false (by omega)
          go_wp2_with fail
          go_ret3
          exact ⟨_, 0, true, es, rfl, .inr ⟨H1.out, H2.out, rfl, rfl, .inl ⟨fun j hj => HF.out j (by omega), rfl, rfl⟩⟩, (hh.below hbr).mono (Nat.le_refl _) (by have := hbr.size; omega), Ag.of_below _ (hwb.trans (hbr.mono hB2))⟩
    · have t1 : (termAt es i != t) = true := by simp [h2]
      go_enter Try.func67, Try.ntmps67
      go_wp2_with (first
        | (go_at_call 42; refine (known_true p w hc1).mono ?_; rintro _ w1 ⟨rfl, rfl⟩)
        | (go_at_call 43; refine (term_hasT B T w p es i h).mono ?_; rintro _ w2 ⟨rfl, hb⟩))
      go_ret3
      exact ⟨0, 0, false, es, rfl, .inl ⟨fun h => h2 h.2, rfl, rfl, rfl, rfl⟩, (h.below hb).mono (Nat.le_refl _) (by have := hb.size; omega), Ag.of_below _ hb⟩
  · have h1' : hasAt es i = false := by simpa using h1
    go_enter Try.func67, Try.ntmps67
    go_wp2_with (first
      | (go_at_call 42; refine (known_true p w hc1).mono ?_; rintro _ w1 ⟨rfl, rfl⟩)
      | (go_at_call 43; refine (term_hasT B T w p es i h).mono ?_; rintro _ w2 ⟨rfl, hb⟩))
    go_ret3
    exact ⟨0, 0, false, es, rfl, .inl ⟨fun h => h1 h.1, rfl, rfl, rfl, rfl⟩, (h.below hb).mono (Nat.le_refl _) (by have := hb.size; omega), Ag.of_below _ hb⟩
end Go.Proofs.Ythfofnfkopnbhaa
namespace Go.Proofs.Ythfofnfkopnbhaa
open Go.RowKit
set_option linter.unusedVariables false
set_option maxRecDepth 100000

/-- How many entries fit, from the first on. -/
def fitK : List En → List En → Nat
  | x :: xs, y :: ys => if x.term = y.term then fitK xs ys + 1 else 0
  | _, _ => 0
theorem fitK_le : ∀ xs ys, fitK xs ys ≤ ys.length ∧ fitK xs ys ≤ xs.length
  | x :: xs, y :: ys => by
    have := fitK_le xs ys
    simp only [fitK]
    split <;> simp <;> omega
  | [], [] => by simp [fitK]
  | [], y :: ys => by simp [fitK]
  | x :: xs, [] => by simp [fitK]
theorem fitK_lt : ∀ (xs ys : List En) (j : Nat), j < fitK xs ys → ∃ x y, xs[j]? = some x ∧ ys[j]? = some y ∧ x.term = y.term
  | x :: xs, y :: ys, j, h => by
    simp only [fitK] at h
    split at h
    · rename_i e
      cases j with
      | zero => exact ⟨x, y, rfl, rfl, e⟩
      | succ j => exact fitK_lt xs ys j (by omega)
    · omega
  | [], [], j, h => by simp [fitK] at h
  | [], y :: ys, j, h => by simp [fitK] at h
  | x :: xs, [], j, h => by simp [fitK] at h
theorem fitK_at : ∀ (xs ys : List En) (x y : En), xs[fitK xs ys]? = some x → ys[fitK xs ys]? = some y → x.term ≠ y.term
  | x :: xs, y :: ys, u, v, h1, h2, e => by
    simp only [fitK] at h1 h2
    split at h1
    · rename_i e'
      rw [if_pos e'] at h2
      exact fitK_at xs ys u v (by simpa using h1) (by simpa using h2) e
    · rename_i e'
      rw [if_neg e'] at h2
      simp at h1 h2
      subst h1 h2
      exact e' e
  | [], [], _, _, h1, _, _ => by simp at h1
  | [], y :: ys, _, _, h1, _, _ => by simp at h1
  | x :: xs, [], _, _, _, h2, _ => by simp at h2
theorem fitK_j {es ns : List En} {n j : Nat} (h : j < fitK (es.drop n) ns) : FitJ es ns n j := by
  obtain ⟨x, y, h1, h2, h3⟩ := fitK_lt _ _ _ h
  rw [List.getElem?_drop] at h1
  exact ⟨x, y, h1, h2, h3⟩
theorem fitK_no {es ns : List En} {n : Nat} : ¬ FitJ es ns n (fitK (es.drop n) ns) := by
  rintro ⟨x, y, h1, h2, h3⟩
  exact fitK_at (es.drop n) ns x y (by rw [List.getElem?_drop]; exact h1) h2 h3
/-- What Fit tells and leaves. -/
def fitR (es ns : List En) (i t : Int) : Int × Int × Bool × List En :=
  if hasAt es i = true ∧ termAt es i = t then
    if fitK (es.drop i.toNat) ns = ns.length then (i + ns.length, 0, true, es)
    else (i + ns.length, i + 1 + fitK (es.drop i.toNat) ns, true, es.take (i.toNat + fitK (es.drop i.toNat) ns) ++ ns.drop (fitK (es.drop i.toNat) ns))
  else (0, 0, false, es)
theorem FitP.eq {es ns es' : List En} {i t last chg : Int} {ok : Bool} (h : FitP es ns i t last chg ok es') : (last, chg, ok, es') = fitR es ns i t := by
  unfold fitR
  rcases h with ⟨h, rfl, rfl, rfl, rfl⟩ | ⟨h1, h2, rfl, rfl, (⟨hall, rfl, rfl⟩ | ⟨k, hk, hj, hn, hle, rfl, rfl⟩)⟩
  · rw [if_neg h]
  · rw [if_pos ⟨h1, h2⟩]
    have h3 := (fitK_le (es'.drop i.toNat) ns).1
    have h4 : fitK (es'.drop i.toNat) ns = ns.length := by
      by_cases h5 : fitK (es'.drop i.toNat) ns < ns.length
      · exact absurd (hall _ h5) fitK_no
      · omega
    rw [if_pos h4]
  · rw [if_pos ⟨h1, h2⟩]
    have h4 : fitK (es.drop i.toNat) ns = k := by
      rcases Nat.lt_trichotomy (fitK (es.drop i.toNat) ns) k with h | h | h
      · exact absurd (hj _ h) fitK_no
      · exact h
      · exact absurd (fitK_j h) hn
    rw [h4, if_neg (by omega)]
end Go.Proofs.Ythfofnfkopnbhaa
