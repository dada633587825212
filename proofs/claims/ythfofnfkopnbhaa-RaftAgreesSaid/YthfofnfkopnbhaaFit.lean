/- Fit: over this seat's program. -/
import Derived.Test.YthfofnfkopnbhaaLog
namespace Go.Proofs.Ythfofnfkopnbhaa
open Go.RowKit
set_option linter.unusedVariables false
set_option maxRecDepth 100000

/-- The entry that lies i + j in the log has the term of the j-th of those that are fitted. -/
def FitJ (es ns : List En) (i j : Nat) : Prop := ∃ x y, es[i + j]? = some x ∧ ns[j]? = some y ∧ x.term = y.term
/-- What Fit tells and leaves. -/
def FitP (es ns : List En) (i t last chg : Int) (ok : Bool) (es' : List En) : Prop :=
  (¬ (hasAt es i = true ∧ termAt es i = t) ∧ last = 0 ∧ chg = 0 ∧ ok = false ∧ es' = es) ∨
  (hasAt es i = true ∧ termAt es i = t ∧ ok = true ∧ last = i + ns.length ∧
    (((∀ j, j < ns.length → FitJ es ns i.toNat j) ∧ chg = 0 ∧ es' = es) ∨
      ∃ k, k < ns.length ∧ (∀ j, j < k → FitJ es ns i.toNat j) ∧ ¬ FitJ es ns i.toNat k ∧ i.toNat + k ≤ es.length ∧ chg = i + 1 + k ∧ es' = es.take (i.toNat + k) ++ ns.drop k))
/-- The log at p, with these entries, behind a call. -/
def FitEnd (B : Nat) (w : World) (p : Nat) (es ns : List En) (i t : Int) (e : Ending) (w' : World) : Prop :=
  ∃ last chg ok es', e = .returned (.tuple #[.int .i64 last, .int .i64 chg, .bool ok]) ∧ FitP es ns i t last chg ok es' ∧ Has B w' p es' ∧ Below B w w'

theorem Has.below' {B p : Nat} {w w' : World} {es : List En} (h : Has B w p es) (hb : Below w.heap.size w w') : Has B w' p es := h.below hb
theorem term_has (B : Nat) (w : World) (p : Nat) (es : List En) (i : Int) (h : Has B w p es) :
    Calls Try.prog 43 #[.pointer (some ⟨p, 0, none⟩), .int .i64 i] w fun e w' => e = .returned (.tuple #[.int .i64 (termAt es i), .bool (hasAt es i)]) ∧ Below w.heap.size w w' := let ⟨g, v, ds, h, _⟩ := h; term_any w p g true v es ds i h
/-- cut and put, at one. -/
theorem cut_has (B : Nat) (w : World) (p : Nat) (es : List En) (n : Nat) (h : Has B w p es) (hn : n ≤ es.length) (hB : B ≤ w.heap.size) :
    Calls Try.prog 86 #[.pointer (some ⟨p, 0, none⟩), .int .i64 n] w fun e w' => (∃ r, e = .returned r) ∧ Has B w' p (es.take n) ∧ Below B w w' := by
  obtain ⟨g, v, ds, h, h1, h2⟩ := h
  exact (cut_any w p g true v es ds n h hn).mono fun e w' ⟨hr, v', hL, hS, _⟩ => ⟨hr, ⟨g, v', _, hL, h1, h2⟩, hS.below h1 h2 hB⟩
theorem put_has (B : Nat) (A : Option Addr) (c : Nat) (ns : List En) (w : World) (p : Nat) (es : List En) (h : Has B w p es) (ha : Ents w (fun b => b < B) A c ns) (hB : B ≤ w.heap.size) (hs : es.length + ns.length ≤ 100000) (hd : ∀ e ∈ ns, e.data.length ≤ 100000000) :
    Calls Try.prog 39 #[.pointer (some ⟨p, 0, none⟩), .slice A ns.length c] w fun x w' => (∃ r, x = .returned r) ∧ Has B w' p (es ++ ns) ∧ Below B w w' := by
  obtain ⟨g, v, ds, h, h1, h2⟩ := h
  refine (put_any (fun b => b < B) A c ns w p g v es ds h ha (fun b hb => ⟨by omega, by omega, by omega⟩) hs hd).mono ?_
  rintro x w' ⟨hr, v', g', ds', hL, hS, hg⟩
  exact ⟨hr, ⟨g', v', ds', hL, h1, by omega⟩, hS.below h1 h2 hB⟩
theorem cut_has' (B : Nat) (w : World) (p : Nat) (es : List En) (n : Nat) (i : Int) (hi : i = n) (h : Has B w p es) (hn : n ≤ es.length) (hB : B ≤ w.heap.size) :
    Calls Try.prog 86 #[.pointer (some ⟨p, 0, none⟩), .int .i64 i] w fun e w' => (∃ r, e = .returned r) ∧ Has B w' p (es.take n) ∧ Below B w w' := by
  subst hi
  exact cut_has B w p es n h hn hB
theorem put_has' (B : Nat) (A : Option Addr) (c nl : Nat) (ns : List En) (hnl : nl = ns.length) (w : World) (p : Nat) (es : List En) (h : Has B w p es) (ha : Ents w (fun b => b < B) A c ns) (hB : B ≤ w.heap.size) (hs : es.length + ns.length ≤ 100000) (hd : ∀ e ∈ ns, e.data.length ≤ 100000000) :
    Calls Try.prog 39 #[.pointer (some ⟨p, 0, none⟩), .slice A nl c] w fun x w' => (∃ r, x = .returned r) ∧ Has B w' p (es ++ ns) ∧ Below B w w' := by
  subst hnl
  exact put_has B A c ns w p es h ha hB hs hd
theorem Ents.drop {w : World} {K : Nat → Prop} {a : Addr} {c : Nat} {es : List En} (h : Ents w K (some a) c es) (k : Nat) (hk : k ≤ es.length) (hkc : k ≠ c) : Ents w K (some (a.add (k * 6))) (c - k) (es.drop k) := by
  obtain ⟨h1, h2, h3, h4⟩ := h
  refine ⟨fun e => (by cases e), by simp; omega, by omega, fun hne => ⟨_, rfl, fun i e hi => ?_⟩⟩
  obtain ⟨a', e', hc⟩ := h4 (by rintro rfl; simp at hne)
  injection e' with e'
  subst e'
  rw [List.getElem?_drop] at hi
  have := hc (k + i) e hi
  have he : (a.add (k * 6)).add (i * 6) = a.add ((k + i) * 6) := by
    unfold Addr.add
    have e1 : (k * 6 = 0) = (k = 0) := propext ⟨by omega, by omega⟩
    have e2 : (i * 6 = 0) = (i = 0) := propext ⟨by omega, by omega⟩
    have e3 : ((k + i) * 6 = 0) = (k = 0 ∧ i = 0) := propext ⟨by omega, by omega⟩
    simp only [e1, e2, e3]
    by_cases hk0 : k = 0 <;> by_cases hi0 : i = 0 <;> simp [hk0, hi0]
    omega
  rw [he]
  exact this

theorem fit_has {es : List En} {n k : Nat} : hasAt es ((n : Int) + 1 + k) = decide (n + k < es.length) := by
  unfold hasAt
  rw [Bool.eq_iff_iff]
  simp
  omega
theorem fit_term {es : List En} {n k : Nat} {x : En} (h : es[n + k]? = some x) : termAt es ((n : Int) + 1 + k) = x.term := by
  unfold termAt
  rw [if_pos (by omega), show ((n : Int) + 1 + k - 1).toNat = n + k by omega, h]
  rfl
theorem fit_le {es ns : List En} {n k : Nat} (h : ∀ j, j < k → FitJ es ns n j) (hn : n ≤ es.length) : n + k ≤ es.length := by
  cases k with
  | zero => exact hn
  | succ k =>
    obtain ⟨x, y, h1, _⟩ := h k (by omega)
    have := (List.getElem?_eq_some_iff.1 h1).1
    omega
theorem fit_no {es ns : List En} {n k : Nat} {x y : En} (h1 : es[n + k]? = some x) (h2 : ns[k]? = some y) (h : x.term ≠ y.term) : ¬ FitJ es ns n k := by
  rintro ⟨x', y', e1, e2, e3⟩
  rw [h1] at e1
  rw [h2] at e2
  injection e1 with e1
  injection e2 with e2
  subst e1 e2
  exact h e3
theorem fit_out {es ns : List En} {n k : Nat} (h1 : ¬ n + k < es.length) : ¬ FitJ es ns n k := by
  rintro ⟨x', y', e1, e2, e3⟩
  exact h1 (List.getElem?_eq_some_iff.1 e1).1
set_option maxRecDepth 100000 in
set_option maxHeartbeats 2000000 in
theorem Fit_any (B : Nat) (A : Option Addr) (c : Nat) (ns : List En) (w : World) (p : Nat) (es : List En) (i t : Int) (h : Has B w p es) (ha : Ents w (fun b => b < B) A c ns) (hB : B ≤ w.heap.size) (hs : es.length + ns.length ≤ 100000) (hd : ∀ e ∈ ns, e.data.length ≤ 100000000) :
    Calls Try.prog 67 #[.pointer (some ⟨p, 0, none⟩), .int .i64 i, .int .i64 t, .slice A ns.length c] w (FitEnd B w p es ns i t) := by
  have hc1 := h.c1
  by_cases h1 : hasAt es i = true
  · by_cases h2 : termAt es i = t
    · have q : 0 ≤ i ∧ i ≤ es.length := by simpa [hasAt] using h1
      have t1 : (termAt es i != t) = false := by simp [h2]
      have H1 := Lib.hid h1
      have H2 := Lib.hid h2
      obtain ⟨n, rfl⟩ : ∃ n : Nat, i = n := ⟨i.toNat, by omega⟩
      obtain ⟨q1, q2⟩ := q
      clear h2
      go_enter Try.func67, Try.ntmps67
      go_wp2_with (first
        | (go_at_call 42; refine (known_true p w hc1).mono ?_; rintro _ w1 ⟨rfl, rfl⟩)
        | (go_at_call 43; refine (term_has B w p es _ h).mono ?_; rintro _ w2 ⟨rfl, hb⟩))
      have hwb := hb.mono hB
      have hh := h.below hb
      have haw : Ents w2 (fun b => b < B) A c ns := ha.keep (fun b hb' => hwb.block b hb') (fun _ h => h)
      have hB2 : B ≤ w2.heap.size := Nat.le_trans hB hb.size
      clear hb h ha hc1 h1
      go_loopw [8, 42] (fun l v wr => ∃ k : Nat, k ≤ ns.length ∧ l = .int .i64 ((n : Int) + ns.length) ∧ v = .int .i64 k ∧ Hid (∀ j, j < k → FitJ es ns n j) ∧ Below w2.heap.size w2 wr) (fun _ v _ => ns.length - (intOf v).toNat)
      case atStart => exact ⟨0, Nat.zero_le _, rfl, rfl, fun j hj => absurd hj (by omega), Below.refl _ _⟩
      case round =>
        obtain ⟨k, hk, rfl, rfl, HF, hbr⟩ := hrel
        by_cases hlt : k < ns.length
        · have d1 : decide ((k : Int) < (ns.length : Int)) = true := decide_eq_true (by omega)
          obtain ⟨a, y, D, d, rfl, ka, hy, ca, ra, la, ma⟩ := (haw.keep (K' := fun b => b < B) (fun b hb' => hbr.block b (by omega)) (fun _ h => h)).at_ hlt
          obtain ⟨a0, a1, a2, a3, a4, a5⟩ := en6 ca
          clear ca
          have hbA : Below wr.heap.size wr (wr.alloc (.cells #[.int .i64 y.term, .int .u8 y.kind, .int .i64 y.ver, .int .i64 y.srv, .bool y.good, .slice D y.data.length d] 44)) := (Below.refl _ _).alloc (Nat.le_refl _) _
          have hpr := (hh.below hbr).below hbA
          by_cases hin : n + k < es.length
          · have hx := List.getElem?_eq_getElem hin
            generalize es[n + k] = x at hx
            have HT := Lib.hid (fit_term hx)
            have HH : Hid (hasAt es ((n : Int) + 1 + k) = true) := by rw [fit_has]; exact decide_eq_true hin
            have HX := Lib.hid hx
            clear hx
            by_cases hxy : x.term = y.term
            · have t2 : (x.term != y.term) = false := by simp [hxy]
              have HF2 : Hid (∀ j, j < k + 1 → FitJ es ns n j) := by
                intro j hj
                rcases Nat.lt_or_ge j k with h1 | h1
                · exact HF.out j h1
                · obtain rfl : j = k := by omega
                  exact ⟨x, y, HX.out, hy.out, hxy⟩
              clear hxy
              go_wp2_with (go_at_call 43; refine (term_has B _ p es _ hpr).mono ?_; rintro _ w3 ⟨rfl, hb3⟩; rw [HT.out, HH.out]; have cy : w3.cell? ⟨wr.heap.size, 0, none⟩ = some (.int .i64 y.term) := by { rw [World.cell?_of_block (hb3.block _ (by simp))]; exact (cells6 (heap_alloc_new wr _)).1 })
              go_roundw
              case rel => exact ⟨k + 1, by omega, rfl, by go_num, HF2, hbr.trans ((hbA.trans (hb3.mono hbA.size)).mono hbr.size)⟩
              case measure => simp [intOf]; omega
            · have t2 : (x.term != y.term) = true := by simp [hxy]
              have HN := Lib.hid (fit_no HX.out hy.out hxy)
              clear hxy
              go_wp2_with (go_at_call 43; refine (term_has B _ p es _ hpr).mono ?_; rintro _ w3 ⟨rfl, hb3⟩; rw [HT.out, HH.out]; have cy : w3.cell? ⟨wr.heap.size, 0, none⟩ = some (.int .i64 y.term) := by { rw [World.cell?_of_block (hb3.block _ (by simp))]; exact (cells6 (heap_alloc_new wr _)).1 })
              have hB3 : B ≤ w3.heap.size := Nat.le_trans (Nat.le_trans hB2 hbr.size) (Nat.le_trans hbA.size hb3.size)
              have hbw : Below B w w3 := hwb.trans ((hbr.mono hB2).trans ((hbA.mono (by have := hbr.size; omega)).trans (hb3.mono (by have := hbr.size; simp; omega))))
              have hle := fit_le HF.out (by omega : n ≤ es.length)
              refine (cut_has' B w3 p es (n + k) _ (by omega) (hpr.below hb3) hle hB3).mono ?_
              rintro _ w4 ⟨⟨r, rfl⟩, h4, hb4⟩
              have hB4 : B ≤ w4.heap.size := Nat.le_trans hB3 hb4.size
              have hbw4 := hbw.trans hb4
              have ha4 : Ents w4 (fun b => b < B) (some a) c ns := haw.keep (fun b hb' => (hbw4.block b hb').trans (hwb.block b hb').symm) (fun _ h => h)
              have hdr := ha4.drop k (by omega) (by have := ha4.2.1; omega)
              have hcap : k ≤ c := by have := ha4.2.1; omega
              have hcm : c ≤ 9223372036854775807 := Nat.le_trans ha4.2.2.1 (by decide)
              have hne : ¬ c = k := by have := ha4.2.1; omega
              have hlen : (es.take (n + k)).length + (ns.drop k).length ≤ 100000 := by simp; omega
              have HP := put_has' B (some (a.add (k * 6))) (c - k) (ns.length - k) (ns.drop k) (by simp) w4.drew p (es.take (n + k)) (h4.below ((Below.refl _ w4).drew)) (hdr.keep (fun _ _ => rfl) (fun _ h => h)) hB4 hlen (fun e he => hd e (List.mem_of_mem_drop he))
              clear ha4 hdr hpr hbA haw hb3 hb4 hbw h4
              go_wp2_with fail
              go_still_tail 6, (by kernel_rfl)
              go_wp2_with fail
              refine HP.mono ?_
              rintro _ w5 ⟨⟨r5, rfl⟩, h5, hb5⟩
              clear HP
              go_wp2_with fail
              go_ret3
              exact ⟨_, _, true, _, rfl, .inr ⟨H1.out, H2.out, rfl, rfl, .inr ⟨k, hlt, HF.out, HN.out, hle, rfl, rfl⟩⟩, h5, hbw4.drew.trans hb5⟩
          · have HH : Hid (hasAt es ((n : Int) + 1 + k) = false) := by rw [fit_has]; exact decide_eq_false hin
            have HN := Lib.hid (fit_out (ns := ns) hin)
            go_wp2_with (go_at_call 43; refine (term_has B _ p es _ hpr).mono ?_; rintro _ w3 ⟨rfl, hb3⟩; rw [HH.out])
            have hB3 : B ≤ w3.heap.size := Nat.le_trans (Nat.le_trans hB2 hbr.size) (Nat.le_trans hbA.size hb3.size)
            have hbw : Below B w w3 := hwb.trans ((hbr.mono hB2).trans ((hbA.mono (by have := hbr.size; omega)).trans (hb3.mono (by have := hbr.size; simp; omega))))
            have hle := fit_le HF.out (by omega : n ≤ es.length)
            refine (cut_has' B w3 p es (n + k) _ (by omega) (hpr.below hb3) hle hB3).mono ?_
            rintro _ w4 ⟨⟨r, rfl⟩, h4, hb4⟩
            have hB4 : B ≤ w4.heap.size := Nat.le_trans hB3 hb4.size
            have hbw4 := hbw.trans hb4
            have ha4 : Ents w4 (fun b => b < B) (some a) c ns := haw.keep (fun b hb' => (hbw4.block b hb').trans (hwb.block b hb').symm) (fun _ h => h)
            have hdr := ha4.drop k (by omega) (by have := ha4.2.1; omega)
            have hcap : k ≤ c := by have := ha4.2.1; omega
            have hcm : c ≤ 9223372036854775807 := Nat.le_trans ha4.2.2.1 (by decide)
            have hne : ¬ c = k := by have := ha4.2.1; omega
            have hlen : (es.take (n + k)).length + (ns.drop k).length ≤ 100000 := by simp; omega
            have HP := put_has' B (some (a.add (k * 6))) (c - k) (ns.length - k) (ns.drop k) (by simp) w4.drew p (es.take (n + k)) (h4.below ((Below.refl _ w4).drew)) (hdr.keep (fun _ _ => rfl) (fun _ h => h)) hB4 hlen (fun e he => hd e (List.mem_of_mem_drop he))
            clear ha4 hdr hpr hbA haw hb3 hb4 hbw h4
            go_wp2_with fail
            go_still_tail 6, (by kernel_rfl)
            go_wp2_with fail
            refine HP.mono ?_
            rintro _ w5 ⟨⟨r5, rfl⟩, h5, hb5⟩
            clear HP
            go_wp2_with fail
            go_ret3
            exact ⟨_, _, true, _, rfl, .inr ⟨H1.out, H2.out, rfl, rfl, .inr ⟨k, hlt, HF.out, HN.out, hle, rfl, rfl⟩⟩, h5, hbw4.drew.trans hb5⟩
        · have d1 : decide ((k : Int) < (ns.length : Int)) = false := decide_eq_false (by omega)
          go_wp2_with fail
          go_ret3
          exact ⟨_, 0, true, es, rfl, .inr ⟨H1.out, H2.out, rfl, rfl, .inl ⟨fun j hj => HF.out j (by omega), rfl, rfl⟩⟩, hh.below hbr, hwb.trans (hbr.mono hB2)⟩
    · have t1 : (termAt es i != t) = true := by simp [h2]
      go_enter Try.func67, Try.ntmps67
      go_wp2_with (first
        | (go_at_call 42; refine (known_true p w hc1).mono ?_; rintro _ w1 ⟨rfl, rfl⟩)
        | (go_at_call 43; refine (term_has B w p es i h).mono ?_; rintro _ w2 ⟨rfl, hb⟩))
      go_ret3
      exact ⟨0, 0, false, es, rfl, .inl ⟨fun h => h2 h.2, rfl, rfl, rfl, rfl⟩, h.below hb, hb.mono hB⟩
  · have h1' : hasAt es i = false := by simpa using h1
    go_enter Try.func67, Try.ntmps67
    go_wp2_with (first
      | (go_at_call 42; refine (known_true p w hc1).mono ?_; rintro _ w1 ⟨rfl, rfl⟩)
      | (go_at_call 43; refine (term_has B w p es i h).mono ?_; rintro _ w2 ⟨rfl, hb⟩))
    go_ret3
    exact ⟨0, 0, false, es, rfl, .inl ⟨fun h => h1 h.1, rfl, rfl, rfl, rfl⟩, h.below hb, hb.mono hB⟩
end Go.Proofs.Ythfofnfkopnbhaa
