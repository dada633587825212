/- Put, At: the log by its blocks. -/
import Derived.Test.YtcbomcbflmgmhaaGreatKLog
namespace Go.Proofs.YtcbomcbflmgmhaaGreat
open Go.RowKit
set_option linter.unusedVariables false
set_option maxRecDepth 100000

theorem PutS_any (S K : Nat → Prop) (w : World) (p : Nat) (es : List En) (e : En) (A : Option Addr) (c : Nat) (h : LogS S w p es) (hSb : ∀ b, S b → b < w.heap.size) (ha : Rd w K A c (u8s e.data)) (hK : ∀ b, K b → b < w.heap.size ∧ ¬ S b) (hl : e.data.length ≤ c) (hc : c ≤ maxLen) (hs : es.length + 1 ≤ 100000) (hd : e.data.length ≤ 100000000) :
    Calls Tryz.prog 30 #[.pointer (some ⟨p, 0, none⟩), enA e A c] w fun x w' => x = .returned (.int .i64 (es.length + 1)) ∧ LogS (fun b => S b ∨ Fresh w w' b) w' p (es ++ [e]) ∧ Ag (fun k => ¬ S k) w w' := by
  have hbA : Below w.heap.size w (w.alloc (.cells #[.int .i64 e.term, .int .u8 e.kind, .int .i64 e.ver, .int .i64 e.srv, .bool e.good, .slice A e.data.length c] 53)) := (Below.refl _ _).alloc (Nat.le_refl _) _
  have hA := h.below hbA
  go_enter Tryz.func30, Tryz.ntmps30
  unfold enA enV
  go_wp2_with (go_at_call 39; refine (known_true p _ hA.c1).mono ?_; rintro _ w1 ⟨rfl, rfl⟩)
  obtain ⟨c0, c1, c2, c3, c4, c5⟩ := cells6 (heap_alloc_new w (Obj.cells #[.int .i64 e.term, .int .u8 e.kind, .int .i64 e.ver, .int .i64 e.srv, .bool e.good, .slice A e.data.length c] 53))
  have hsz : (w.alloc (.cells #[.int .i64 e.term, .int .u8 e.kind, .int .i64 e.ver, .int .i64 e.srv, .bool e.good, .slice A e.data.length c] 53)).heap.size = w.heap.size + 1 := by simp
  generalize (w.alloc (.cells #[.int .i64 e.term, .int .u8 e.kind, .int .i64 e.ver, .int .i64 e.srv, .bool e.good, .slice A e.data.length c] 53)) = wa at *
  have HZ := Lib.hid hsz
  clear hsz
  have hra : Rd wa K A c (u8s e.data) := ha.keep (fun b hb => hbA.block b (hK b hb).1) (fun _ h => h)
  have hcon : ∀ W, Below wa.heap.size wa W → W.heap[wa.heap.size]? = some (.cells (enV e A c).toArray 53 (0, 0)) → Calls Tryz.prog 24 #[.pointer (some ⟨p, 0, none⟩), .slice (some ⟨wa.heap.size, 0, none⟩) 1 1] W fun x w' => (∃ r, x = .returned r) ∧ LogS (fun b => S b ∨ Fresh w w' b) w' p (es ++ [e]) ∧ Ag (fun k => ¬ S k) w w' := by
    intro W hb hg'
    have hz := HZ.out
    have hW := (Array.getElem?_eq_some_iff.1 hg').1
    have hbw : Below w.heap.size w W := hbA.trans (hb.mono hbA.size)
    refine (put_S S (fun b => K b ∨ b = wa.heap.size) (some ⟨wa.heap.size, 0, none⟩) 1 1 [e] rfl W p es (hA.below hb) (ents_one W _ e A c _ hg' (hra.keep (fun b h => hb.block b (by have := (hK b h).1; omega)) (fun b h => .inl h)) hl hc (.inr rfl)) (fun b h => ?_) hs (fun x hx => by simp at hx; rw [hx]; exact hd)).mono ?_
    · rcases h with h | h
      · exact ⟨by have := (hK b h).1; omega, (hK b h).2⟩
      · exact ⟨by omega, fun h' => by have := hSb b h'; omega⟩
    · rintro x w' ⟨hr, h1, h2⟩
      exact ⟨hr, h1.mono (fun b hb' => hb'.imp id (fun h => ⟨Nat.le_trans hbw.size h.1, h.2⟩)), (Ag.of_below _ hbw).trans h2⟩
  clear hbA hra h ha
  go_region_law ((go_simp; go_at_call 24; refine (hcon _ (((Below.refl _ _).drew).alloc (Nat.le_refl _) _) (heap_alloc_new wa.drew _)).mono ?_; rintro _ w3 ⟨⟨r, rfl⟩, hL, hB'⟩; obtain ⟨A', cc, o0⟩ := hL.has.c0))
  all_goals
    go_wp2_with fail
    go_ret
    exact ⟨by simp, hL, hB'⟩
/-- What At tells: the entry in memory of its own. -/
theorem AtK_any (S : Nat → Prop) (w : World) (p : Nat) (es : List En) (i : Int) (h : LogS S w p es) (hd : ∀ e ∈ es, e.data.length ≤ 100000000) :
    Calls Tryz.prog 34 #[.pointer (some ⟨p, 0, none⟩), .int .i64 i] w fun x w' => ∃ e A c b, x = .returned (.tuple #[enA e A c, .bool b]) ∧ Below w.heap.size w w' ∧ Dat w' (fun b => w.heap.size ≤ b) A c e.data ∧
      ((1 ≤ i ∧ es[(i - 1).toNat]? = some e ∧ b = true) ∨ (¬ (1 ≤ i ∧ i ≤ es.length) ∧ e = en0 ∧ b = false)) := by
  obtain ⟨g, v, ds, h, _⟩ := h.has
  have hbA : Below w.heap.size w (w.alloc (.cells #[.int .i64 0, .int .u8 0, .int .i64 0, .int .i64 0, .bool false, .slice none 0 0] 53)) := (Below.refl _ _).alloc (Nat.le_refl _) _
  have hA := h.below hbA
  have hp := h.plt
  go_enter Tryz.func34, Tryz.ntmps34
  go_wp2_with (first
    | (go_at_call 39; refine (known_true p _ hA.c1).mono ?_; rintro _ w1 ⟨rfl, rfl⟩)
    | (go_at_call 52; refine (entry_any _ p g true v es ds i hA).mono ?_; rintro _ w1 ⟨x, A, c, b, rfl, hb, hr, hl, hm, hx⟩; have HX := Lib.hid hx; clear hx; simp only [enA, enV]))
  have HI : Hid (x.data.length ≤ 100000000) := by
    rcases HX.out with ⟨_, h2, _⟩ | ⟨_, rfl, _⟩
    · exact hd x (List.mem_of_getElem? h2)
    · exact Nat.zero_le _
  have hb2 : Below (w.heap.size + 1) (w.alloc (.cells #[.int .i64 0, .int .u8 0, .int .i64 0, .int .i64 0, .bool false, .slice none 0 0] 53)) (w1.alloc (.cells #[.int .i64 x.term, .int .u8 x.kind, .int .i64 x.ver, .int .i64 x.srv, .bool x.good, .slice A x.data.length c] 53)) := by
    have h1 : Below (w.heap.size + 1) (w.alloc (.cells #[.int .i64 0, .int .u8 0, .int .i64 0, .int .i64 0, .bool false, .slice none 0 0] 53)) w1 := hb.mono (by simp)
    exact h1.alloc (by have := h1.size; simp at this; omega) _
  have hcon := ownK_any (LogK (w.alloc (.cells #[.int .i64 0, .int .u8 0, .int .i64 0, .int .i64 0, .bool false, .slice none 0 0] 53)) p) x A c (w1.alloc (.cells #[.int .i64 x.term, .int .u8 x.kind, .int .i64 x.ver, .int .i64 x.srv, .bool x.good, .slice A x.data.length c] 53))
    (hr.keep (fun b hb' => hb2.block b (by have := hb'.1; simp at this; omega)) (fun _ h => h)) (fun b hb' => Nat.lt_of_lt_of_le hb'.1 hb2.size) HI.out
  simp only [enA, enV] at hcon
  refine hcon.mono ?_
  rintro _ w3 ⟨A', c', rfl, hr3, hb3⟩
  have hz2 := hb2.size
  have hz3 := hb3.size
  simp at hz2 hz3
  have hB3 : Below (w.heap.size + 1) (w.alloc (.cells #[.int .i64 0, .int .u8 0, .int .i64 0, .int .i64 0, .bool false, .slice none 0 0] 53)) w3 := hb2.trans (hb3.mono (by simp; omega))
  have b0 : w3.heap[w.heap.size]? = some (.cells #[.int .i64 0, .int .u8 0, .int .i64 0, .int .i64 0, .bool false, .slice none 0 0] 53 (0, 0)) := (hB3.block _ (by omega)).trans (heap_alloc_new w _)
  have f0 := frozen_blk b0
  obtain ⟨a0, a1, a2, a3, a4, a5⟩ := cells6 b0
  have B0 := Lib.hid b0
  clear b0 hcon
  go_wp2_with fail
  refine bodyPost_ret (v := .tuple #[enA x A' c', .bool b]) (by simp [results, Tryz.results34, go_sem, enA, enV, a0, a1, a2, a3, a4, a5]) rfl ⟨x, A', c', b, rfl, ?_, ?_, HX.out⟩
  · exact (((((((hbA.trans (hB3.mono (by omega))).setCell (Nat.le_refl _) _).setCell (Nat.le_refl _) _).setCell (Nat.le_refl _) _).setCell (Nat.le_refl _) _).setCell (Nat.le_refl _) _).setCell (Nat.le_refl _) _)
  · refine hr3.keep (fun b hb _ => ?_) (by simp [World.setCell]) (fun b hb _ => ?_)
    · have h3 : w.heap.size < b := by simp at hb; omega
      iterate 6 rw [Below.heap_setCell _ _ _ _ (by show b ≠ _; simp only []; omega)]
    · simp at hb; omega
end Go.Proofs.YtcbomcbflmgmhaaGreat
