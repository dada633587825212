/- awake: over this seat's program. -/
import Derived.Test.YtcbomcbflmgmhaaGreatTerms
namespace Go.Proofs.YtcbomcbflmgmhaaGreat
open Go.RowKit
set_option linter.unusedVariables false
set_option maxRecDepth 100000

theorem FitC_any (B T : Nat) (K : Nat → Prop) (A : Option Addr) (c : Nat) (ns : List En) (w : World) (p : Nat) (es : List En) (i t : Int) (h : HasT B T w p es) (ha : Ents w K A c ns) (hK : ∀ b, K b → b < w.heap.size ∧ Out B T b) (hT : T ≤ w.heap.size) (hs : es.length + ns.length ≤ 100000) (hd : ∀ e ∈ ns, e.data.length ≤ 100000000)
    (last chg : Int) (ok : Bool) (es' : List En) (hf : fitR es ns i t = (last, chg, ok, es')) :
    Calls Tryz.prog 20 #[.pointer (some ⟨p, 0, none⟩), .int .i64 i, .int .i64 t, .slice A ns.length c] w fun e w' => e = .returned (.tuple #[.int .i64 last, .int .i64 chg, .bool ok]) ∧ HasT B w'.heap.size w' p es' ∧ Ag (Out B T) w w' := by
  refine (FitT_any B T K A c ns w p es i t h ha hK hT hs hd).mono ?_
  rintro e w' ⟨l1, c1, o1, e1, rfl, hP, hH, hA⟩
  have := hP.eq
  rw [hf] at this
  injection this with h1 h2
  injection h2 with h2 h3
  injection h3 with h3 h4
  subst h1 h2 h3 h4
  exact ⟨rfl, hH, hA⟩
theorem Has.T {B p : Nat} {w : World} {es : List En} (h : Has B w p es) : HasT B w.heap.size w p es := let ⟨g, v, ds, h, h1, h2⟩ := h; ⟨h1, h.plt, g, v, ds, h, fun e => ⟨h2, h.lt e⟩⟩
theorem rd_new (w : World) (l : List Int) (t : TypeId) (c : Nat) : Rd (w.alloc (.cells (i64s l).toArray t)) (fun b => b = w.heap.size) (some ⟨w.heap.size, 0, none⟩) c (i64s l) := ⟨(fun e => by cases e), fun _ => ⟨_, rfl, rfl, news_new w (i64s l) t⟩⟩
/-- Ints that were just made: terms of them. -/
theorem terms_new (l : List Int) (w : World) (n : Nat) (hn : n = l.length) (hl : l.length ≤ 100000) : Calls Tryz.prog 17 #[.slice (some ⟨w.heap.size, 0, none⟩) n n] (w.alloc (.cells (i64s l).toArray 3)) fun x w' => ∃ A c, x = .returned (.slice A n c) ∧ Ents w' (Fresh w w') A c (l.map enT) ∧ Below w.heap.size w w' := by
  subst hn
  refine (terms_any (fun b => b = w.heap.size) (some ⟨w.heap.size, 0, none⟩) l.length l _ (rd_new w l 3 _) (fun b hb => by simp [hb]) hl).mono ?_
  rintro _ w' ⟨A, c, rfl, hE, hB⟩
  have h1 : Below w.heap.size w (w.alloc (.cells (i64s l).toArray 3)) := (Below.refl _ _).alloc (Nat.le_refl _) _
  exact ⟨A, c, by simp, hE.keep (fun _ _ => rfl) (fun b hb => ⟨Nat.le_trans h1.size hb.1, hb.2⟩), h1.trans (hB.mono h1.size)⟩
theorem has_new (B T : Nat) (l : List Int) (w : World) (p n : Nat) (es : List En) (hn : n = l.length) (h : HasT B T w p es) (hes : es.length ≤ 100000) (hd : ∀ e ∈ es, e.data.length ≤ 100000000) (hl : l.length ≤ 100000) (b : Bool) (hb : decide (es.take 1000 = l.map enT) = b) :
    Calls Tryz.prog 21 #[.pointer (some ⟨p, 0, none⟩), .slice (some ⟨w.heap.size, 0, none⟩) n n] (w.alloc (.cells (i64s l).toArray 3)) fun x w' => x = .returned (.bool b) ∧ Below w.heap.size w w' := by
  subst hn
  have h1 : Below w.heap.size w (w.alloc (.cells (i64s l).toArray 3)) := (Below.refl _ _).alloc (Nat.le_refl _) _
  refine (has_any B T (fun b => b = w.heap.size) (some ⟨w.heap.size, 0, none⟩) l.length l _ p es (h.below h1) hes hd (rd_new w l 3 _) (fun b hb => by simp [hb]) hl).mono ?_
  rintro _ w' ⟨rfl, hB⟩
  exact ⟨by rw [hb], h1.trans (hB.mono h1.size)⟩
theorem enT_small (l : List Int) : ∀ e ∈ l.map enT, e.data.length ≤ 100000000 := by
  intro e he
  obtain ⟨t, _, rfl⟩ := List.mem_map.1 he
  exact Nat.zero_le _
theorem last_hasT (B T : Nat) (w : World) (p : Nat) (es : List En) (n t : Int) (hn : (es.length : Int) = n) (ht : termAt es es.length = t) (h : HasT B T w p es) :
    Calls Tryz.prog 13 #[.pointer (some ⟨p, 0, none⟩)] w fun e w' => e = .returned (.tuple #[.int .i64 n, .int .i64 t]) ∧ Below w.heap.size w w' := by
  subst hn ht
  exact Last_any 0 w p es h.has
theorem Ag.low {B T : Nat} {w w' : World} (h : Ag (Out B T) w w') (hB : B ≤ w.heap.size) : Below B w w' := h.below hB (fun k hk => .inl hk)

set_option maxRecDepth 100000 in
set_option maxHeartbeats 2000000 in
theorem awake_any (w : World) : Calls Tryz.prog 6 #[] w fun e w' => e = .returned (.bool true) ∧ Below w.heap.size w w' := by
  go_enter Tryz.func6, Tryz.ntmps6
  go_wp2_with fail
  refine (terms_new [1, 1, 2] w 3 rfl (by decide)).mono ?_
  rintro _ w1 ⟨A1, c1, rfl, hE1, hB1⟩
  go_wp2_with fail
  refine (New_any A1 c1 ([1, 1, 2].map enT) w1 (hE1.keep (fun _ _ => rfl) (fun b hb => hb.2)) (by decide) (enT_small _)).mono ?_
  rintro _ w2 ⟨p, rfl, hN, hB2⟩
  have hH := hN.T
  have hBB : Below w1.heap.size w1 w2 := hB2
  clear hN hE1
  go_wp2_with fail
  refine (last_hasT w1.heap.size w2.heap.size w2 p _ 3 2 rfl rfl hH).mono ?_
  rintro _ w3 ⟨rfl, hB3⟩
  have hH3 := hH.below hB3
  clear hH
  go_wp2_with fail
  refine (terms_new [1, 3] w3 2 rfl (by decide)).mono ?_
  rintro _ w4 ⟨A4, c4, rfl, hE4, hB4⟩
  have hH4 := hH3.below hB4
  clear hH3
  go_wp2_with fail
  refine (FitC_any w1.heap.size w2.heap.size (Fresh w3 w4) A4 c4 ([1, 3].map enT) w4 p _ 1 1 hH4 hE4 (fun b hb => ⟨hb.2, .inr (Nat.le_trans hB3.size hb.1)⟩) (Nat.le_trans hB3.size hB4.size) (by decide) (enT_small _) 3 3 true ([1, 1, 3].map enT) (by decide)).mono ?_
  rintro _ w5 ⟨rfl, hH5, hA5⟩
  have z1 := hB1.size
  have z2 := hB2.size
  have z3 := hB3.size
  have z4 := hB4.size
  have z5 := hA5.size
  have hX5 : Below w.heap.size w w5 := hB1.trans ((hB2.mono z1).trans ((hB3.mono (by omega)).trans ((hB4.mono (by omega)).trans ((hA5.low (by omega)).mono z1))))
  have hB5 : w1.heap.size ≤ w5.heap.size := by omega
  clear hA5 hE4 hB1 hB2 hB3 hB4 hBB hH4 z2 z3 z4 z5
  go_wp2_with fail
  refine (has_new w1.heap.size w5.heap.size [1, 1, 3] w5 p 3 _ rfl hH5 (by decide) (enT_small _) (by decide) true (by decide)).mono ?_
  rintro _ w6 ⟨rfl, hB6⟩
  have hH6 := hH5.below hB6
  clear hH5
  go_wp2_with fail
  refine (terms_new [1] w6 1 rfl (by decide)).mono ?_
  rintro _ w7 ⟨A7, c7, rfl, hE7, hB7⟩
  have hH7 := hH6.below hB7
  clear hH6
  go_wp2_with fail
  refine (FitC_any w1.heap.size w5.heap.size (Fresh w6 w7) A7 c7 ([1].map enT) w7 p _ 1 1 hH7 hE7 (fun b hb => ⟨hb.2, .inr (Nat.le_trans hB6.size hb.1)⟩) (Nat.le_trans hB6.size hB7.size) (by decide) (enT_small _) 2 0 true ([1, 1, 3].map enT) (by decide)).mono ?_
  rintro _ w8 ⟨rfl, hH8, hA8⟩
  have z6 := hB6.size
  have z7 := hB7.size
  have z8 := hA8.size
  have hX8 : Below w.heap.size w w8 := hX5.trans ((hB6.mono (by omega)).trans ((hB7.mono (by omega)).trans ((hA8.low (by omega)).mono z1)))
  have hB8 : w1.heap.size ≤ w8.heap.size := by omega
  clear hA8 hE7 hB6 hB7 hH7 hX5 z6 z7 z8 hB5
  go_wp2_with fail
  refine (FitC_any w1.heap.size w8.heap.size (fun _ => False) none 0 [] w8 p _ 4 3 hH8 ⟨fun _ => rfl, Nat.le_refl _, by decide, fun h => absurd rfl h⟩ (fun b hb => hb.elim) (Nat.le_refl _) (by decide) (fun e he => by cases he) 0 0 false ([1, 1, 3].map enT) (by decide)).mono ?_
  rintro _ w9 ⟨rfl, hH9, hA9⟩
  have z9 := hA9.size
  have hX9 : Below w.heap.size w w9 := hX8.trans ((hA9.low (by omega)).mono z1)
  have hB9 : w1.heap.size ≤ w9.heap.size := by omega
  clear hA9 hH8 hX8 z9 hB8
  go_wp2_with fail
  refine (FitC_any w1.heap.size w9.heap.size (fun _ => False) none 0 [] w9 p _ 3 2 hH9 ⟨fun _ => rfl, Nat.le_refl _, by decide, fun h => absurd rfl h⟩ (fun b hb => hb.elim) (Nat.le_refl _) (by decide) (fun e he => by cases he) 0 0 false ([1, 1, 3].map enT) (by decide)).mono ?_
  rintro _ wa ⟨rfl, hHa, hAa⟩
  have za := hAa.size
  have hXa : Below w.heap.size w wa := hX9.trans ((hAa.low (by omega)).mono z1)
  have hBa : w.heap.size ≤ wa.heap.size := by omega
  clear hAa hH9 hX9 za hB9
  go_wp2_with fail
  refine (has_new w1.heap.size wa.heap.size [1, 1, 3] wa p 3 _ rfl hHa (by decide) (enT_small _) (by decide) true (by decide)).mono ?_
  rintro _ wb ⟨rfl, hBb⟩
  go_wp2_with fail
  go_ret
  exact ⟨rfl, hXa.trans (hBb.mono hBa)⟩
end Go.Proofs.YtcbomcbflmgmhaaGreat
