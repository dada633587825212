/- OverEntry, OverEntries: over this seat's program. -/
import Derived.Test.YtcbomcbflmgmhaaGreatKKept
namespace Go.Proofs.YtcbomcbflmgmhaaGreat
open Go.RowKit
set_option linter.unusedVariables false
set_option maxRecDepth 100000

theorem OverEntry_any (e : En) (b n : Nat) (cs : List Value) (w : World) (h : Bk w b 5 cs) (hl : cs.length = n + 12) (hn : n ≤ 1000000) (he : e.data.length = n) :
    Calls Tryz.prog 28 #[enA e (some ⟨b, 0, none⟩) (n + 12)] w fun x w' => (∃ r, x = .returned r) ∧ Over b 5 (n + 12) w w' := by
  subst he
  have hbl := h.lt
  unfold enA enV
  go_enter Tryz.func28, Tryz.ntmps28
  go_wp2_with fail
  have hb0 : Below w.heap.size w (w.alloc (.cells #[.int .i64 e.term, .int .u8 e.kind, .int .i64 e.ver, .int .i64 e.srv, .bool e.good, .slice (some ⟨b, 0, none⟩) e.data.length (e.data.length + 12)] 53)) := (Below.refl _ _).alloc (Nat.le_refl _) _
  refine (OverBytes_any b e.data.length cs _ ((hb0.block b hbl).trans h) hl hn).mono ?_
  rintro _ w1 ⟨⟨r, rfl⟩, ⟨cs', hb', hl'⟩, hag⟩
  go_wp2_with fail
  go_end0
  exact ⟨⟨_, rfl⟩, ⟨cs', hb', hl'⟩, (Ag.of_below _ hb0).trans hag⟩

/-- Lent entries of which no more is asked than that they may be written over: their blocks lie from N up to M. -/
structure OverS (w : World) (N M g : Nat) (es : List En) (ds : List (Option Addr × Nat)) : Prop where
  row : Bk w g 53 (rowV (es ++ markE 12) (ds ++ nones 12))
  len : ds.length = es.length
  gb : N ≤ g ∧ g < M
  data : ∀ (i : Nat) (e : En) (d : Option Addr × Nat), es[i]? = some e → ds[i]? = some d → ∃ b cs, d = (some ⟨b, 0, none⟩, e.data.length + 12) ∧ Bk w b 5 cs ∧ cs.length = e.data.length + 12 ∧ N ≤ b ∧ b < M ∧ b ≠ g
theorem LentAt.over {w : World} {N g : Nat} {es : List En} {ds : List (Option Addr × Nat)} (h : LentAt w N g es ds) : OverS w N w.heap.size g es ds :=
  ⟨h.row, h.len, ⟨h.gb, h.row.lt⟩, fun i e d hi hd => let ⟨b, ⟨h1, h2⟩, h3, h4⟩ := h.data i e d hi hd; ⟨b, _, h1, h2, by simp [u8s], h3, h2.lt, h4⟩⟩
theorem OverS.keep {w w' : World} {N M g : Nat} {es : List En} {ds : List (Option Addr × Nat)} (h : OverS w N M g es ds) (hk : ∀ b, N ≤ b → b < M → w'.heap[b]? = w.heap[b]?) : OverS w' N M g es ds :=
  ⟨(hk g h.gb.1 h.gb.2).trans h.row, h.len, h.gb, fun i e d hi hd => let ⟨b, cs, h1, h2, h3, h4, h5, h6⟩ := h.data i e d hi hd; ⟨b, cs, h1, (hk b h4 h5).trans h2, h3, h4, h5, h6⟩⟩
theorem OverS.step {w w' : World} {N M g b n : Nat} {es : List En} {ds : List (Option Addr × Nat)} {cs : List Value} (h : OverS w N M g es ds) (hb : Bk w b 5 cs) (hl : cs.length = n + 12) (hg : b ≠ g) (ho : Over b 5 (n + 12) w w') : OverS w' N M g es ds := by
  obtain ⟨⟨cs', hb', hl'⟩, hag⟩ := ho
  refine ⟨(hag.block g h.row.lt (fun e => hg e.symm)).trans h.row, h.len, h.gb, fun i e d hi hd => ?_⟩
  obtain ⟨c, cs2, h1, h2, h3, h4, h5, h6⟩ := h.data i e d hi hd
  by_cases hcb : c = b
  · subst hcb
    have : cs2 = cs := by
      unfold Bk at h2 hb
      rw [hb] at h2
      injection h2 with h2
      injection h2 with h2
      have := congrArg Array.toList h2
      simpa using this.symm
    subst this
    exact ⟨c, cs', h1, hb', by omega, h4, h5, h6⟩
  · exact ⟨c, cs2, h1, (hag.block c h2.lt hcb).trans h2, h3, h4, h5, h6⟩
set_option maxHeartbeats 1000000 in
theorem OverEntries_any (N M g : Nat) (es : List En) (ds : List (Option Addr × Nat)) (w : World) (h : OverS w N M g es ds) (hn : es.length ≤ 1000000) (hd : ∀ e ∈ es, e.data.length ≤ 1000000) :
    Calls Tryz.prog 11 #[.slice (some ⟨g, 0, none⟩) es.length (es.length + 12)] w fun x w' => (∃ r, x = .returned r) ∧ Ag (fun k => ¬ (N ≤ k ∧ k < M)) w w' := by
  go_enter Tryz.func11, Tryz.ntmps11
  go_wp2_with fail
  go_loopw [2] (fun i wr => ∃ k : Nat, k ≤ es.length ∧ i = .int .i64 k ∧ OverS wr N M g es ds ∧ Ag (fun k => ¬ (N ≤ k ∧ k < M)) w wr) (fun i _ => es.length - (intOf i).toNat)
  case atStart => exact ⟨0, Nat.zero_le _, rfl, h, Ag.refl _ _⟩
  case round =>
    obtain ⟨k, hk, rfl, hO, hag⟩ := hrel
    by_cases hlt : k < es.length
    · have d1 : decide ((k : Int) < (es.length : Int)) = true := decide_eq_true (by omega)
      have hx := List.getElem?_eq_getElem hlt
      generalize es[k] = x at hx
      have hkd : k < ds.length := by rw [hO.len]; exact hlt
      obtain ⟨b, cs, h1, h2, h3, h4, h5, h6⟩ := hO.data k x ds[k] hx (List.getElem?_eq_getElem hkd)
      have hc : ∀ j, j < 6 → wr.cell? ⟨g, k * 6 + j, none⟩ = (enV x (some ⟨b, 0, none⟩) (x.data.length + 12))[j]? := by
        intro j hj
        have hv := rowV_get (es ++ markE 12) (ds ++ nones 12) k x ds[k] (by rw [List.getElem?_append_left hlt]; exact hx) (by rw [List.getElem?_append_left hkd]; exact List.getElem?_eq_getElem hkd) j hj
        rw [hO.row.cell, hv, h1]
      have a0 := hc 0 (by omega)
      have a1 := hc 1 (by omega)
      have a2 := hc 2 (by omega)
      have a3 := hc 3 (by omega)
      have a4 := hc 4 (by omega)
      have a5 := hc 5 (by omega)
      simp only [enV, List.getElem?_cons_zero, List.getElem?_cons_succ, Nat.add_zero] at a0 a1 a2 a3 a4 a5
      have HX := Lib.hid hx
      clear hc hx
      have hcon := OverEntry_any x b x.data.length cs wr h2 h3 (hd x (List.mem_of_getElem? HX.out)) rfl
      simp only [enA, enV] at hcon
      go_wp2_with fail
      refine hcon.mono ?_
      rintro _ w2 ⟨⟨r, rfl⟩, ho⟩
      have hO2 := hO.step h2 h3 h6 ho
      have hag2 : Ag (fun k => ¬ (N ≤ k ∧ k < M)) w w2 := hag.trans (ho.2.mono (fun k _ hk e => hk (by rw [e]; exact ⟨h4, h5⟩)))
      clear a0 a1 a2 a3 a4 a5 ho hag hO hcon h2
      go_wp2_with fail
      go_roundw
      case rel => exact ⟨k + 1, by omega, by go_num, hO2, hag2⟩
      case measure => simp [intOf]; omega
    · have d1 : decide ((k : Int) < (es.length : Int)) = false := decide_eq_false (by omega)
      have hl0 : (rowV (es ++ markE 12) (ds ++ nones 12)).length = (es.length + 12) * 6 := by rw [rowV_len _ _ (by simp [hO.len])]; simp
      have hrow := hO.row
      generalize rowV (es ++ markE 12) (ds ++ nones 12) = cs0 at *
      have HL0 := Lib.hid hl0
      clear hl0
      obtain ⟨hg1, hg2⟩ := hO.gb
      go_wp2_with fail
      obtain ⟨wo, rfl⟩ : ∃ wo : World, wo = wr := ⟨_, rfl⟩
      go_loopw [4] (fun i wr => ∃ (j : Nat) (cs : List Value), j ≤ es.length + 12 ∧ i = .int .i64 j ∧ Bk wr g 53 cs ∧ Hid (cs.length = (es.length + 12) * 6) ∧ Ag (fun k => ¬ (N ≤ k ∧ k < M)) w wr) (fun i _ => es.length + 12 - (intOf i).toNat)
      case atStart => exact ⟨0, cs0, Nat.zero_le _, rfl, hrow, HL0, hag⟩
      case round =>
        clear hag hrow
        obtain ⟨j, cs, hj, rfl, hb, HL, hag⟩ := hrel
        by_cases hlt2 : j < es.length + 12
        · have d2 : decide ((j : Int) < (es.length : Int) + 12) = true := decide_eq_true (by omega)
          have i1 : (0 : Int) ≤ (j : Int) := by omega
          have i2 : (j : Int) < (es.length : Int) + 12 := by omega
          have hcon := markEntry_any 2 j wr (by omega) (by omega) (by omega) (by omega)
          simp only [enA, enV, enT] at hcon
          go_wp2_with fail
          refine hcon.mono ?_
          rintro _ w2 ⟨rfl, hb2⟩
          have hb' : Bk w2 g 53 cs := (hb2.block g hb.lt).trans hb
          have hf := frozen_blk hb'
          have hcell : ∀ q, q < 6 → ∃ u, w2.cell? ⟨g, j * 6 + q, none⟩ = some u := fun q hq => ⟨_, by rw [hb'.cell]; exact List.getElem?_eq_getElem (by have := HL.out; omega)⟩
          obtain ⟨u0, c0⟩ := hcell 0 (by omega)
          obtain ⟨u1, c1⟩ := hcell 1 (by omega)
          obtain ⟨u2, c2⟩ := hcell 2 (by omega)
          obtain ⟨u3, c3⟩ := hcell 3 (by omega)
          obtain ⟨u4, c4⟩ := hcell 4 (by omega)
          obtain ⟨u5, c5⟩ := hcell 5 (by omega)
          simp only [Nat.add_zero] at c0
          have hagw : Ag (fun k => ¬ (N ≤ k ∧ k < M)) w w2 := hag.trans (Ag.of_below _ hb2)
          clear hcell hcon hb2 hb hag
          go_wp2_with fail
          go_roundw
          case rel => exact ⟨j + 1, _, by omega, by go_num, (((((hb'.set _ _).set _ _).set _ _).set _ _).set _ _).set _ _, (by have h9 := HL.out; exact Lib.hid (by simpa using h9)), (((((hagw.setCell (fun _ h => h ⟨hg1, hg2⟩) _).setCell (fun _ h => h ⟨hg1, hg2⟩) _).setCell (fun _ h => h ⟨hg1, hg2⟩) _).setCell (fun _ h => h ⟨hg1, hg2⟩) _).setCell (fun _ h => h ⟨hg1, hg2⟩) _).setCell (fun _ h => h ⟨hg1, hg2⟩) _⟩
          case measure => simp [intOf]; omega
        · have d2 : decide ((j : Int) < (es.length : Int) + 12) = false := decide_eq_false (by omega)
          go_wp2_with fail
          go_end0
          exact ⟨⟨_, rfl⟩, hag⟩
end Go.Proofs.YtcbomcbflmgmhaaGreat
