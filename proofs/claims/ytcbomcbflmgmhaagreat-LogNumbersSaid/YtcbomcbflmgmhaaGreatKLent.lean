/- markEntry, LentEntry, LentEntries: over this seat's program. -/
import Derived.Test.YtcbomcbflmgmhaaGreatKMark
import Derived.Test.YtcbomcbflmgmhaaGreatTerms
namespace Go.Proofs.YtcbomcbflmgmhaaGreat
open Go.RowKit
set_option linter.unusedVariables false
set_option maxRecDepth 100000

theorem markEntry_any (k i : Int) (w : World) (h0 : 0 ≤ k) (h1 : k ≤ 1000000000) (h2 : 0 ≤ i) (h3 : i ≤ 1000000000000000) :
    Calls Tryz.prog 23 #[.int .i64 k, .int .i64 i] w fun e w' => e = .returned (enA (enT (1000003 * (k + 7) + i)) none 0) ∧ Below w.heap.size w w' := by
  go_enter Tryz.func23, Tryz.ntmps23
  go_wp2_with (go_at_call 45; refine (mark_any _ _ _ (by omega) (by omega) (by omega) (by omega)).mono ?_; rintro e w' ⟨rfl, rfl⟩)
  exact bodyPost_ret (v := enA (enT (1000003 * (k + 7) + i)) none 0) (by simp [results, Tryz.results23, go_sem, enA, enV, enT]) rfl ⟨rfl, (Below.refl _ _).alloc (Nat.le_refl _) _⟩
/-- What an entry is when it is lent: its bytes lie in block b, with marks behind them. -/
def LentD (w : World) (e : En) (d : Option Addr × Nat) (b : Nat) : Prop := d = (some ⟨b, 0, none⟩, e.data.length + 12) ∧ Bk w b 5 (u8s (e.data ++ marks 12))
theorem LentEntry_any (K : Nat → Prop) (e : En) (A : Option Addr) (c : Nat) (w : World) (h : Rd w K A c (u8s e.data)) (hK : ∀ b, K b → b < w.heap.size) (hn : e.data.length ≤ 1000000) :
    Calls Tryz.prog 22 #[enA e A c] w fun x w' => ∃ b, x = .returned (enA e (some ⟨b, 0, none⟩) (e.data.length + 12)) ∧ Bk w' b 5 (u8s (e.data ++ marks 12)) ∧ w.heap.size ≤ b ∧ Below w.heap.size w w' := by
  unfold enA enV
  go_enter Tryz.func22, Tryz.ntmps22
  go_wp2_with fail
  refine (lent_any K A c e.data _ (h.keep (fun b hb => ?_) (fun _ h => h)) (fun b hb => ?_) hn).mono ?_
  · exact keep2 _ _ _ _ (hK b hb)
  · have := hK b hb; simp; omega
  rintro x w1 ⟨rfl, hr, hb⟩
  have hbe := below2 w (.cells #[.int .i64 e.term, .int .u8 e.kind, .int .i64 e.ver, .int .i64 e.srv, .bool e.good, .slice A e.data.length c] 53) (.cells #[.int .i64 0, .int .u8 0, .int .i64 0, .int .i64 0, .bool false, .slice none 0 0] 53) 0
  have hB1 : Below w.heap.size w w1 := hbe.trans (hb.mono (by simp; omega))
  have b0 : w1.heap[w.heap.size]? = some (.cells #[.int .i64 e.term, .int .u8 e.kind, .int .i64 e.ver, .int .i64 e.srv, .bool e.good, .slice A e.data.length c] 53 (0, 0)) := (hb.block _ (by simp; omega)).trans (heap_alloc2_old w _ _)
  have b1 : w1.heap[w.heap.size + 1]? = some (.cells #[.int .i64 0, .int .u8 0, .int .i64 0, .int .i64 0, .bool false, .slice none 0 0] 53 (0, 0)) := (hb.block _ (by simp)).trans (heap_alloc2_new w _ _)
  clear hb hbe
  have f0 := frozen_blk b0
  have f1 := frozen_blk b1
  obtain ⟨a0, a1, a2, a3, a4, a5⟩ := cells6 b0
  obtain ⟨d0, d1, d2, d3, d4, d5⟩ := cells6 b1
  have B0 := Lib.hid b0
  have B1 := Lib.hid b1
  clear b0 b1
  go_wp2_with fail
  refine bodyPost_ret (v := .agg #[.int .i64 e.term, .int .u8 e.kind, .int .i64 e.ver, .int .i64 e.srv, .bool e.good, .slice (some ⟨w.heap.size + 1 + 1, 0, none⟩) e.data.length (e.data.length + 12)]) (by simp [results, Tryz.results22, go_sem, d0, d1, d2, d3, d4, d5]) rfl ⟨w.heap.size + 1 + 1, rfl, ?_, by omega, ?_⟩
  · have hz : ((w.alloc (.cells #[.int .i64 e.term, .int .u8 e.kind, .int .i64 e.ver, .int .i64 e.srv, .bool e.good, .slice A e.data.length c] 53)).alloc (.cells #[.int .i64 0, .int .u8 0, .int .i64 0, .int .i64 0, .bool false, .slice none 0 0] 53)).heap.size = w.heap.size + 1 + 1 := by simp
    rw [hz] at hr
    unfold Bk at hr ⊢
    iterate 7 rw [Below.heap_setCell _ _ _ _ (by show w.heap.size + 1 + 1 ≠ _; simp only []; omega)]
    exact hr
  · exact ((((((hB1.setCell (Nat.le_refl _) _).setCell (Nat.le_succ _) _).setCell (Nat.le_succ _) _).setCell (Nat.le_succ _) _).setCell (Nat.le_succ _) _).setCell (Nat.le_succ _) _).setCell (Nat.le_succ _) _
/-- The entries behind what is lent. -/
def markE (j : Nat) : List En := (List.range j).map fun (i : Nat) => enT (8000024 + (i : Int))
theorem markE_succ (j : Nat) : markE (j + 1) = markE j ++ [enT (8000024 + (j : Int))] := by simp [markE, List.range_succ]
@[simp] theorem markE_len (j : Nat) : (markE j).length = j := by simp [markE]
def nones (j : Nat) : List (Option Addr × Nat) := List.replicate j (none, 0)
theorem nones_succ (j : Nat) : nones (j + 1) = nones j ++ [(none, 0)] := by simp [nones, List.replicate_succ']
@[simp] theorem nones_len (j : Nat) : (nones j).length = j := by simp [nones]
/-- Entries that are lent, in block g, their bytes each in a block of its own, all from N on. -/
structure LentAt (w : World) (N g : Nat) (es : List En) (ds : List (Option Addr × Nat)) : Prop where
  row : Bk w g 53 (rowV (es ++ markE 12) (ds ++ nones 12))
  len : ds.length = es.length
  gb : N ≤ g
  data : ∀ (i : Nat) (e : En) (d : Option Addr × Nat), es[i]? = some e → ds[i]? = some d → ∃ b, LentD w e d b ∧ N ≤ b ∧ b ≠ g
theorem LentAt.keep {w w' : World} {N g : Nat} {es : List En} {ds : List (Option Addr × Nat)} (h : LentAt w N g es ds) (hk : ∀ b, N ≤ b → b < w.heap.size → w'.heap[b]? = w.heap[b]?) : LentAt w' N g es ds :=
  ⟨(hk g h.gb h.row.lt).trans h.row, h.len, h.gb, fun i e d hi hd => let ⟨b, ⟨h1, h2⟩, h3, h4⟩ := h.data i e d hi hd; ⟨b, ⟨h1, (hk b h3 h2.lt).trans h2⟩, h3, h4⟩⟩
theorem own_all6 {w : World} {base e g n cap : Nat} {xs : List Value} (h : w.ownsRow base e 6 (.slice (some ⟨g, 0, none⟩) n cap) n xs) (hc : cap ≤ n) : Bk w g e xs := by
  rcases h.2 with ⟨h', _⟩ | ⟨g', cap', cur, h', _, hg, hnc, hcm, hcs, htake⟩
  · simp at h'
  · simp only [Value.slice.injEq, Option.some.injEq, Addr.mk.injEq, and_true, true_and] at h'
    obtain ⟨rfl, rfl⟩ := h'
    unfold Bk
    rw [hg, ← htake, List.take_of_length_le (by simp; omega)]

theorem owns_keep {w w' : World} {base e size n : Nat} {v : Value} {xs : List Value} (h : w.ownsRow base e size v n xs) (hk : ∀ g, v.ownBlock = some g → w'.heap[g]? = w.heap[g]?) : w'.ownsRow base e size v n xs := by
  refine ⟨h.1, ?_⟩
  rcases h.2 with h' | ⟨g, cap, cur, rfl, hb, hg, h1, h2, h3, h4⟩
  · exact .inl h'
  · exact .inr ⟨g, cap, cur, rfl, hb, (hk g rfl).trans hg, h1, h2, h3, h4⟩
theorem owns_lt {w : World} {base e size n : Nat} {v : Value} {xs : List Value} (h : w.ownsRow base e size v n xs) : ∀ g, v.ownBlock = some g → g < w.heap.size := by
  intro g hg
  rcases h.2 with ⟨h', _⟩ | ⟨g', cap, cur, rfl, hb, hg', _⟩
  · rw [h'] at hg; cases hg
  · injection hg with hg
    subst hg
    exact (Array.getElem?_eq_some_iff.1 hg').1
theorem take_snoc' (es : List En) {k : Nat} {x : En} (h : es[k]? = some x) : es.take (k + 1) = es.take k ++ [x] := by rw [List.take_add_one, h]; rfl
theorem LentD.keep {w w' : World} {e : En} {d : Option Addr × Nat} {b : Nat} (h : LentD w e d b) (hk : w'.heap[b]? = w.heap[b]?) : LentD w' e d b := ⟨h.1, hk.trans h.2⟩
set_option maxHeartbeats 2000000 in
theorem LentEntries_any (K : Nat → Prop) (A : Option Addr) (c : Nat) (es : List En) (w : World) (ha : Ents w K A c es) (hK : ∀ b, K b → b < w.heap.size) (hn : es.length ≤ 1000000) (hd : ∀ e ∈ es, e.data.length ≤ 1000000) :
    Calls Tryz.prog 7 #[.slice A es.length c] w fun x w' => ∃ g ds, x = .returned (.slice (some ⟨g, 0, none⟩) es.length (es.length + 12)) ∧ LentAt w' w.heap.size g es ds ∧ Below w.heap.size w w' := by
  obtain ⟨i0, hi, hz0, hz1, hz2⟩ := info_parts info37
  go_enter Tryz.func7, Tryz.ntmps7
  go_wp2_with (at_make; refine wpList_make_own _ rfl _ _ 22 rfl w.heap.size 53 i0 _ 6 Tryz.underlying22 hi hz0 hz1 _ _ _ (es.length + 12) rfl rfl (by omega) (by rw [hz2]; omega) (by unfold maxLen; omega) (by omega) ?_; intro w1 hown1 hgrow1; have hb1 := (Below.refl w.heap.size w).grown hgrow1 (Nat.le_refl _) (by simp))
  clear hgrow1
  go_loopw [3, 4] (fun v i wr => ∃ (k : Nat) (ds : List (Option Addr × Nat)), k ≤ es.length ∧ i = .int .i64 k ∧ v = .slice (some ⟨w.heap.size, 0, none⟩) k (es.length + 12) ∧ wr.ownsRow w.heap.size 53 6 (.slice (some ⟨w.heap.size, 0, none⟩) k (es.length + 12)) k (rowV (es.take k) ds) ∧ ds.length = k ∧
    (∀ (i : Nat) (e : En) (d : Option Addr × Nat), (es.take k)[i]? = some e → ds[i]? = some d → ∃ b, LentD wr e d b ∧ w.heap.size ≤ b ∧ b ≠ w.heap.size) ∧ Below w.heap.size w wr) (fun _ i _ => es.length - (intOf i).toNat)
  case atStart => exact ⟨0, [], Nat.zero_le _, rfl, rfl, by simpa [rowV] using hown1, rfl, fun i e d hi => by simp at hi, hb1⟩
  case round =>
    clear hb1 hown1
    obtain ⟨k, ds, hk, rfl, rfl, hown, hds, hdat, hb⟩ := hrel
    have HD := Lib.hid hdat
    have HL := Lib.hid hds
    clear hdat hds
    by_cases hlt : k < es.length
    · have d1 : decide ((k : Int) < (es.length : Int)) = true := decide_eq_true (by omega)
      obtain ⟨a, x, D, d, rfl, ka, hx, ca, ra, la, ma⟩ := (ha.keep (K' := K) (fun b hb' => hb.block b (hK b hb')) (fun _ h => h)).at_ hlt
      obtain ⟨a0, a1, a2, a3, a4, a5⟩ := en6 ca
      clear ca
      have hcon := LentEntry_any K x D d wr ra (fun b hb' => Nat.lt_of_lt_of_le (hK b hb') hb.size) (hd x (List.mem_of_getElem? hx.out))
      simp only [enA, enV] at hcon
      go_wp2_with fail
      refine hcon.mono ?_
      rintro _ w2 ⟨b, rfl, hbk, hbge, hb2⟩
      clear a0 a1 a2 a3 a4 a5 hcon
      have hnb : b < w2.heap.size := hbk.lt
      have hsz2 := hb2.size
      have hszr := hb.size
      have hgl : w.heap.size < wr.heap.size := owns_lt hown _ rfl
      have hown2 : ∀ o o', ((w2.alloc o).alloc o').ownsRow w.heap.size 53 6 (.slice (some ⟨w.heap.size, 0, none⟩) k (es.length + 12)) k (rowV (es.take k) ds) := fun o o' => owns_keep hown (fun g e => by injection e with e; subst e; exact (keep2 w2 o o' _ (by show w.heap.size < _; omega)).trans (hb2.block _ hgl))
      go_wp2_with (at_builtin; refine wpList_append_fits _ rfl (.tmp 22) (.tmp 24) 22 rfl w.heap.size 53 i0 6 Tryz.underlying22 hi hz1 w.heap.size k (es.length + 12) (rowV (es.take k) ds) rfl (hown2 _ _) ⟨w2.heap.size + 1, 0, none⟩ 1 1 (enV x (some ⟨b, 0, none⟩) (x.data.length + 12)) rfl rfl ?c1 (enV_one _ _ _) ?c3 ?_)
      case c1 =>
        have := news_new (w2.alloc (.cells (enV x (some ⟨b, 0, none⟩) (x.data.length + 12)).toArray 53)) (enV x (some ⟨b, 0, none⟩) (x.data.length + 12)) 53
        rw [World.size_alloc] at this
        exact this
      case c3 => omega
      intro w3 hown3 hgrow3
      have hb3 : Below w.heap.size w w3 := (((hb.trans (hb2.mono hszr)).alloc (by omega) _).alloc (by simp; omega) _).grown hgrow3 (by simp; omega) (by intro k e; injection e with e; omega)
      have hkeep : ∀ c, c < w2.heap.size → c ≠ w.heap.size → w3.heap[c]? = w2.heap[c]? := fun c h1 h2 => (hgrow3.block c (by simp; omega) (fun e => h2 (by injection e))).trans (keep2 w2 _ _ c h1)
      have HR : Hid (rowV (es.take k) ds ++ enV x (some ⟨b, 0, none⟩) (x.data.length + 12) = rowV (es.take (k + 1)) (ds ++ [(some ⟨b, 0, none⟩, x.data.length + 12)])) := by
        rw [take_snoc' _ hx.out, rowV_snoc _ _ _ _ (by rw [HL.out]; simp; omega)]; exact rfl
      rw [HR.out] at hown3
      have HD3 : Hid (∀ (i : Nat) (e : En) (d : Option Addr × Nat), (es.take (k + 1))[i]? = some e → (ds ++ [(some ⟨b, 0, none⟩, x.data.length + 12)])[i]? = some d → ∃ b, LentD w3 e d b ∧ w.heap.size ≤ b ∧ b ≠ w.heap.size) := by
        intro i e d hi' hd'
        rw [take_snoc' _ hx.out] at hi'
        have hl1 : (es.take k).length = k := by simp; omega
        have hl2 := HL.out
        rcases Nat.lt_or_ge i k with h | h
        · rw [List.getElem?_append_left (by omega)] at hi' hd'
          obtain ⟨c, hc1, hc2, hc3⟩ := HD.out i e d hi' hd'
          have hcl : c < wr.heap.size := hc1.2.lt
          exact ⟨c, (hc1.keep (hb2.block c hcl)).keep (hkeep c (by omega) hc3), hc2, hc3⟩
        · have hi0 : i = k := by have := (List.getElem?_eq_some_iff.1 hi').1; simp at this; omega
          subst hi0
          rw [List.getElem?_append_right (by omega)] at hi' hd'
          simp [hl1] at hi'
          simp [hl2] at hd'
          subst hi' hd'
          exact ⟨b, LentD.keep ⟨rfl, hbk⟩ (hkeep b hnb (by omega)), by omega, by omega⟩
      clear hown hown2 hgrow3 hkeep hbk hb2 hb
      go_wp2_with fail
      go_roundw
      case rel => exact ⟨k + 1, _, by omega, by go_num, rfl, hown3, by simp [HL.out], HD3.out, hb3⟩
      case measure => simp [intOf]; omega
    · have d1 : decide ((k : Int) < (es.length : Int)) = false := decide_eq_false (by omega)
      obtain rfl : k = es.length := by omega
      have HD' : Hid (∀ (i : Nat) (e : En) (d : Option Addr × Nat), es[i]? = some e → ds[i]? = some d → ∃ b, LentD wr e d b ∧ w.heap.size ≤ b ∧ b ≠ w.heap.size) := by have := HD.out; rw [List.take_length] at this; exact this
      rw [List.take_length] at hown
      clear HD
      go_wp2_with fail
      obtain ⟨wo, rfl⟩ : ∃ wo : World, wo = wr := ⟨_, rfl⟩
      go_loopw [3, 6] (fun v i wr => ∃ j : Nat, j ≤ 12 ∧ i = .int .i64 j ∧ v = .slice (some ⟨w.heap.size, 0, none⟩) (es.length + j) (es.length + 12) ∧ wr.ownsRow w.heap.size 53 6 (.slice (some ⟨w.heap.size, 0, none⟩) (es.length + j) (es.length + 12)) (es.length + j) (rowV (es ++ markE j) (ds ++ nones j)) ∧
        (∀ (i : Nat) (e : En) (d : Option Addr × Nat), es[i]? = some e → ds[i]? = some d → ∃ b, LentD wr e d b ∧ w.heap.size ≤ b ∧ b ≠ w.heap.size) ∧ Below w.heap.size w wr) (fun _ i _ => 12 - (intOf i).toNat)
      case atStart => exact ⟨0, Nat.zero_le _, rfl, rfl, by simpa [markE, nones] using hown, HD'.out, hb⟩
      case round =>
        clear hb hown HD'
        obtain ⟨j, hj, rfl, rfl, hown, hdat, hb⟩ := hrel
        have HD := Lib.hid hdat
        clear hdat
        by_cases hlt2 : j < 12
        · have d2 : decide ((j : Int) < 12) = true := decide_eq_true (by omega)
          have hcon := markEntry_any 1 j wr (by omega) (by omega) (by omega) (by omega)
          simp only [enA, enV, enT] at hcon
          go_wp2_with fail
          refine hcon.mono ?_
          rintro _ w2 ⟨rfl, hb2⟩
          have hsz2 := hb2.size
          have hszr := hb.size
          have hgl : w.heap.size < wr.heap.size := owns_lt hown _ rfl
          have hown2 : ∀ o, (w2.alloc o).ownsRow w.heap.size 53 6 (.slice (some ⟨w.heap.size, 0, none⟩) (es.length + j) (es.length + 12)) (es.length + j) (rowV (es ++ markE j) (ds ++ nones j)) := fun o => owns_keep hown (fun g e => by injection e with e; subst e; exact (heap_alloc_old w2 o (by show w.heap.size < _; omega)).trans (hb2.block _ hgl))
          go_wp2_with (at_builtin; refine wpList_append_fits _ rfl (.tmp 30) (.tmp 33) 22 rfl w.heap.size 53 i0 6 Tryz.underlying22 hi hz1 w.heap.size (es.length + j) (es.length + 12) (rowV (es ++ markE j) (ds ++ nones j)) rfl (hown2 _) ⟨w2.heap.size, 0, none⟩ 1 1 (enV (enT (8000024 + (j : Int))) none 0) rfl rfl (news_new w2 (enV (enT (8000024 + (j : Int))) none 0) 53) (enV_one _ _ _) (by omega) ?_)
          intro w3 hown3 hgrow3
          have hb3 : Below w.heap.size w w3 := ((hb.trans (hb2.mono hszr)).alloc (by omega) _).grown hgrow3 (by simp; omega) (by intro k e; injection e with e; omega)
          have hkeep : ∀ c, c < wr.heap.size → c ≠ w.heap.size → w3.heap[c]? = wr.heap[c]? := fun c h1 h2 => (hgrow3.block c (by simp; omega) (fun e => h2 (by injection e))).trans ((heap_alloc_old w2 _ (by omega)).trans (hb2.block c h1))
          have HR : Hid (rowV (es ++ markE j) (ds ++ nones j) ++ enV (enT (8000024 + (j : Int))) none 0 = rowV (es ++ markE (j + 1)) (ds ++ nones (j + 1))) := by
            rw [markE_succ, nones_succ, ← List.append_assoc, ← List.append_assoc, rowV_snoc _ _ _ _ (by simp [HL.out])]; exact rfl
          rw [HR.out] at hown3
          have HD3 : Hid (∀ (i : Nat) (e : En) (d : Option Addr × Nat), es[i]? = some e → ds[i]? = some d → ∃ b, LentD w3 e d b ∧ w.heap.size ≤ b ∧ b ≠ w.heap.size) := by
            intro i e d hi' hd'
            obtain ⟨c, hc1, hc2, hc3⟩ := HD.out i e d hi' hd'
            exact ⟨c, hc1.keep (hkeep c hc1.2.lt hc3), hc2, hc3⟩
          clear hown hown2 hgrow3 hkeep hb2 hb
          go_wp2_with fail
          go_roundw
          case rel => exact ⟨j + 1, by omega, by go_num, rfl, hown3, HD3.out, hb3⟩
          case measure => simp [intOf]; omega
        · have d2 : decide ((j : Int) < 12) = false := decide_eq_false (by omega)
          obtain rfl : j = 12 := by omega
          go_wp2_with fail
          go_ret
          exact ⟨_, ds, rfl, ⟨own_all6 hown (by omega), HL.out, Nat.le_refl _, HD.out⟩, hb⟩
end Go.Proofs.YtcbomcbflmgmhaaGreat
