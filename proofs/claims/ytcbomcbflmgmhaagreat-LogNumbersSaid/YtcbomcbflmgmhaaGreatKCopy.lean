/- CopyEntry, CopyEntries, the reference's New: over this seat's program. -/
import Derived.Test.YtcbomcbflmgmhaaGreatKOver
import Derived.Test.YtcbomcbflmgmhaaGreatKFull
namespace Go.Proofs.YtcbomcbflmgmhaaGreat
open Go.RowKit
set_option linter.unusedVariables false
set_option maxRecDepth 100000

theorem CopyD_any (K : Nat → Prop) (A : Option Addr) (c : Nat) (l : List Int) (w : World) (h : Rd w K A c (u8s l)) (hn : l.length ≤ 1000000) :
    Calls Tryz.prog 57 #[.slice A l.length c] w fun e w' => ∃ A' c', e = .returned (.slice A' l.length c') ∧ Dat w' (fun b => w.heap.size ≤ b) A' c' l ∧ Below w.heap.size w w' := by
  refine (copy_any K A c l w h hn).mono ?_
  rintro _ w' ⟨v, rfl, ho, hb⟩
  obtain ⟨A', c', rfl, hd⟩ := own_dat (w := w) ho
  exact ⟨A', c', rfl, hd, hb⟩
theorem CopyEntry_any (K : Nat → Prop) (e : En) (A : Option Addr) (c : Nat) (w : World) (h : Rd w K A c (u8s e.data)) (hK : ∀ b, K b → b < w.heap.size) (hn : e.data.length ≤ 1000000) :
    Calls Tryz.prog 46 #[enA e A c] w fun x w' => ∃ A' c', x = .returned (enA e A' c') ∧ Dat w' (fun b => w.heap.size ≤ b) A' c' e.data ∧ Below w.heap.size w w' := by
  unfold enA enV
  go_enter Tryz.func46, Tryz.ntmps46
  go_wp2_with fail
  refine (CopyD_any K A c e.data _ (h.keep (fun b hb => ?_) (fun _ h => h)) hn).mono ?_
  · exact keep2 _ _ _ _ (hK b hb)
  rintro x w1 ⟨A', c', rfl, hr, hb⟩
  have hbe := below2 w (.cells #[.int .i64 e.term, .int .u8 e.kind, .int .i64 e.ver, .int .i64 e.srv, .bool e.good, .slice A e.data.length c] 53) (.cells #[.int .i64 0, .int .u8 0, .int .i64 0, .int .i64 0, .bool false, .slice none 0 0] 53) 0
  have hB1 : Below w.heap.size w w1 := hbe.trans (hb.mono (by simp; omega))
  have b0 : w1.heap[w.heap.size]? = some (.cells #[.int .i64 e.term, .int .u8 e.kind, .int .i64 e.ver, .int .i64 e.srv, .bool e.good, .slice A e.data.length c] 53 (0, 0)) := (hb.block _ (by simp; omega)).trans (heap_alloc2_old w _ _)
  have b1 : w1.heap[w.heap.size + 1]? = some (.cells #[.int .i64 0, .int .u8 0, .int .i64 0, .int .i64 0, .bool false, .slice none 0 0] 53 (0, 0)) := (hb.block _ (by simp)).trans (heap_alloc2_new w _ _)
  clear hb hbe
  have f0 := frozen_blk b0
  have f1 := frozen_blk b1
  obtain ⟨a0, a1, a2, a3, a4, a5⟩ := cells6 b0
  obtain ⟨d0, d1, d2, d3, d4, d5⟩ := cells6 b1
  have B0 := Lib.hid b0
  have B1 := Lib.hid b1
  clear b0 b1
  go_wp2_with fail
  refine bodyPost_ret (v := .agg #[.int .i64 e.term, .int .u8 e.kind, .int .i64 e.ver, .int .i64 e.srv, .bool e.good, .slice A' e.data.length c']) (by simp [results, Tryz.results46, go_sem, d0, d1, d2, d3, d4, d5]) rfl ⟨A', c', rfl, ?_, ?_⟩
  · refine hr.keep (fun b hb _ => ?_) (by simp [World.setCell]) (fun b hb _ => ?_)
    · have h3 : w.heap.size + 2 ≤ b := by simp at hb; omega
      iterate 7 rw [Below.heap_setCell _ _ _ _ (by show b ≠ _; simp only []; omega)]
    · simp at hb; omega
  · exact ((((((hB1.setCell (Nat.le_refl _) _).setCell (Nat.le_succ _) _).setCell (Nat.le_succ _) _).setCell (Nat.le_succ _) _).setCell (Nat.le_succ _) _).setCell (Nat.le_succ _) _).setCell (Nat.le_succ _) _

/-- A row of entries of its own: v, their bytes in blocks of K. -/
structure RowK (w : World) (N : Nat) (v : Value) (K : Nat → Prop) (es : List En) (ds : List (Option Addr × Nat)) : Prop where
  own : w.ownsRow N 53 6 v es.length (rowV es ds)
  len : ds.length = es.length
  data : ∀ (i : Nat) (e : En) (d : Option Addr × Nat), es[i]? = some e → ds[i]? = some d → Dat w K d.1 d.2 e.data
  kk : ∀ b, K b → N ≤ b ∧ b < w.heap.size ∧ v.ownBlock ≠ some b
theorem owns_block {w : World} {base e size n : Nat} {v : Value} {xs : List Value} (h : w.ownsRow base e size v n xs) : ∀ g, v.ownBlock = some g → base ≤ g ∧ g < w.heap.size := by
  intro g hg
  rcases h.2 with ⟨h', _⟩ | ⟨g', cap, cur, rfl, hb, hg', _⟩
  · rw [h'] at hg; cases hg
  · injection hg with hg
    subst hg
    exact ⟨hb, (Array.getElem?_eq_some_iff.1 hg').1⟩
theorem RowK.nil (w : World) (N : Nat) : RowK w N (.slice none 0 0) (fun _ => False) [] [] := ⟨World.ownsRow_nil _ _ _ _, rfl, fun i e d hi => by simp at hi, fun _ h => h.elim⟩
/-- One entry more. -/
theorem RowK.step {wr w2 w3 : World} {N : Nat} {v v' : Value} {K : Nat → Prop} {es : List En} {ds : List (Option Addr × Nat)} {x : En} {A' : Option Addr} {c' : Nat} {o o' : Obj}
    (h : RowK wr N v K es ds) (hN : N ≤ wr.heap.size) (hb : Below wr.heap.size wr w2) (hr : Dat w2 (fun b => wr.heap.size ≤ b) A' c' x.data) (hgr : ((w2.alloc o).alloc o').grownBy w3 v.ownBlock)
    (hown : w3.ownsRow N 53 6 v' (es.length + 1) (rowV es ds ++ enV x A' c')) (hv : ∀ g, v'.ownBlock = some g → v.ownBlock = some g ∨ w2.heap.size ≤ g) :
    RowK w3 N v' (fun b => K b ∨ (wr.heap.size ≤ b ∧ b < w2.heap.size)) (es ++ [x]) (ds ++ [(A', c')]) := by
  have hs := hgr.size
  have hs2 := hb.size
  simp at hs
  have hob := owns_block h.own
  have old : ∀ b, b < w2.heap.size → v.ownBlock ≠ some b → w3.heap[b]? = w2.heap[b]? := fun b h1 h2 => (hgr.block b (by simp; omega) (fun e => h2 e.symm)).trans (keep2 w2 o o' b h1)
  refine ⟨by rw [List.length_append, rowV_snoc _ _ _ _ h.len]; exact hown, by simp [h.len], fun i e d hi hd => ?_, ?_⟩
  · have hlen := h.len
    rcases Nat.lt_or_ge i es.length with h' | h'
    · rw [List.getElem?_append_left h'] at hi
      rw [List.getElem?_append_left (by omega)] at hd
      refine (h.data i e d hi hd).keep (fun b hk _ => ?_) (by omega) (fun b hk _ => .inl hk)
      obtain ⟨_, k2, k3⟩ := h.kk b hk
      exact (old b (by omega) k3).trans (hb.block b k2)
    · have hi0 : i = es.length := by have := (List.getElem?_eq_some_iff.1 hi).1; simp at this; omega
      subst hi0
      simp at hi
      rw [← hlen] at hd
      simp at hd
      subst hi hd
      exact hr.keep (fun b hk hl => old b hl (fun e => by have := (hob b e).2; omega)) (by omega) (fun b hk hl => .inr ⟨hk, hl⟩)
  · rintro b (hk | hk)
    · obtain ⟨k1, k2, k3⟩ := h.kk b hk
      refine ⟨k1, by omega, fun e => ?_⟩
      rcases hv b e with e' | e'
      · exact k3 e'
      · omega
    · refine ⟨by omega, by omega, fun e => ?_⟩
      rcases hv b e with e' | e'
      · have := (hob b e').2; omega
      · omega

theorem RowK.keep {w w' : World} {N : Nat} {v : Value} {K : Nat → Prop} {es : List En} {ds : List (Option Addr × Nat)} (h : RowK w N v K es ds) (hs : w.heap.size ≤ w'.heap.size) (hk : ∀ b, N ≤ b → b < w.heap.size → w'.heap[b]? = w.heap[b]?) : RowK w' N v K es ds :=
  ⟨owns_keep h.own (fun g e => let ⟨h1, h2⟩ := owns_block h.own g e; hk g h1 h2), h.len, fun i e d hi hd => (h.data i e d hi hd).keep (fun b hb hl => hk b (h.kk b hb).1 hl) hs (fun _ h _ => h), fun b hb => let ⟨h1, h2, h3⟩ := h.kk b hb; ⟨h1, Nat.lt_of_lt_of_le h2 hs, h3⟩⟩
set_option maxHeartbeats 1000000 in
theorem CopyEntries_any (K : Nat → Prop) (A : Option Addr) (c : Nat) (es : List En) (w : World) (ha : Ents w K A c es) (hK : ∀ b, K b → b < w.heap.size) (hn : es.length ≤ 100000) (hd : ∀ e ∈ es, e.data.length ≤ 1000000) :
    Calls Tryz.prog 25 #[.slice A es.length c] w fun x w' => ∃ v KR ds, x = .returned v ∧ RowK w' w.heap.size v KR es ds ∧ Below w.heap.size w w' := by
  obtain ⟨i0, hi, hz0, hz1, hz2⟩ := info_parts info37
  go_enter Tryz.func25, Tryz.ntmps25
  go_wp2_with fail
  go_loopw [3, 4] (fun v i wr => ∃ (k : Nat) (KR : Nat → Prop) (ds : List (Option Addr × Nat)), k ≤ es.length ∧ i = .int .i64 k ∧ RowK wr w.heap.size v KR (es.take k) ds ∧ Below w.heap.size w wr) (fun _ i _ => es.length - (intOf i).toNat)
  case atStart => exact ⟨0, _, [], Nat.zero_le _, rfl, RowK.nil _ _, Below.refl _ _⟩
  case round =>
    obtain ⟨k, KR, ds, hk, rfl, hR, hb⟩ := hrel
    by_cases hlt : k < es.length
    · have d1 : decide ((k : Int) < (es.length : Int)) = true := decide_eq_true (by omega)
      obtain ⟨a, x, D, d, rfl, ka, hx, ca, ra, la, ma⟩ := (ha.keep (K' := K) (fun b hb' => hb.block b (hK b hb')) (fun _ h => h)).at_ hlt
      obtain ⟨a0, a1, a2, a3, a4, a5⟩ := en6 ca
      clear ca
      have hcon := CopyEntry_any K x D d wr ra (fun b hb' => Nat.lt_of_lt_of_le (hK b hb') hb.size) (hd x (List.mem_of_getElem? hx.out))
      simp only [enA, enV] at hcon
      go_wp2_with fail
      refine hcon.mono ?_
      rintro _ w2 ⟨A', c', rfl, hr2, hb2⟩
      clear a0 a1 a2 a3 a4 a5 hcon
      have hsz2 := hb2.size
      have hszr := hb.size
      have hlk : (es.take k).length = k := by simp; omega
      have hR2 : ∀ o o', ((w2.alloc o).alloc o').ownsRow w.heap.size 53 6 u3 k (rowV (es.take k) ds) := fun o o' => by
        have := owns_keep (w' := (w2.alloc o).alloc o') hR.own (fun g e => (keep2 w2 o o' _ (by have := (owns_block hR.own g e).2; omega)).trans (hb2.block _ (owns_block hR.own g e).2))
        rw [hlk] at this
        exact this
      have HK := Lib.hid hlk
      clear hlk
      go_wp2_with (at_builtin; refine wpList_append_full _ rfl (.tmp 17) (.tmp 19) 22 rfl 53 i0 _ 6 _ Tryz.underlying22 hi hz0 hz1 hz2 rfl w.heap.size u3 k (rowV (es.take k) ds) rfl (hR2 _ _) (by simp; omega) ⟨w2.heap.size + 1, 0, none⟩ 1 1 (enV x A' c') rfl rfl ?c1 (enV_one _ _ _) (by unfold maxLen; omega) (by omega) (by decide) ?_)
      case c1 =>
        have := news_new (w2.alloc (.cells (enV x A' c').toArray 53)) (enV x A' c') 53
        rw [World.size_alloc] at this
        exact this
      intro v' w3 g' hown3 hgr3 hv3 hg3
      have hst := hR.step (x := x) hszr hb2 hr2 hgr3 (by rw [HK.out]; exact hown3) (fun g e => by
        rw [hv3] at e
        injection e with e
        subst e
        rcases hg3 with h | h
        · right; omega
        · exact .inl h)
      rw [← take_snoc' _ hx.out] at hst
      have hb3 : Below w.heap.size w w3 := (((hb.trans (hb2.mono hszr)).alloc (by omega) _).alloc (by simp; omega) _).grown hgr3 (by simp; omega) (fun j e => (owns_block hR.own j e).1)
      clear hR hR2 hgr3 hown3 hb2 hb hr2
      go_wp2_with fail
      go_roundw
      case rel => exact ⟨k + 1, _, _, by omega, by go_num, hst, hb3⟩
      case measure => simp [intOf]; omega
    · have d1 : decide ((k : Int) < (es.length : Int)) = false := decide_eq_false (by omega)
      rw [List.take_of_length_le (by omega)] at hR
      go_wp2_with fail
      go_ret
      exact ⟨_, KR, ds, rfl, hR, hb⟩
end Go.Proofs.YtcbomcbflmgmhaaGreat
