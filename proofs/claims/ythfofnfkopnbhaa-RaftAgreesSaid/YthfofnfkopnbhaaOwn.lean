/- bytes.Clone, own: over this seat's program. -/
import Derived.Test.YthfofnfkopnbhaaRow
import Derived.Lib.SliceRun
import Derived.Test.YthfofnfkopnbhaaZ1
namespace Go.Proofs.Ythfofnfkopnbhaa
open Go.RowKit
set_option linter.unusedVariables false
set_option maxRecDepth 100000

theorem u8s_one (l : List Int) : ∀ u ∈ u8s l, u.oneCell' = true := by
  intro u hu
  simp only [u8s, List.mem_map] at hu
  obtain ⟨x, _, rfl⟩ := hu
  rfl
/-- Blocks made between two worlds. -/
def Fresh (w w' : World) (b : Nat) : Prop := w.heap.size ≤ b ∧ b < w'.heap.size

/-- A row of bytes of its own reads as bytes. -/
theorem own_rd {w w' : World} {v : Value} {l : List Int} (h : w'.ownsRow w.heap.size 5 1 v l.length (u8s l)) (hv : v ≠ .slice none 0 0) :
    ∃ g cap, v = .slice (some ⟨g, 0, none⟩) l.length cap ∧ Rd w' (Fresh w w') (some ⟨g, 0, none⟩) cap (u8s l) ∧ l.length ≤ cap ∧ cap ≤ maxLen := by
  have hc : ∀ g, v.ownBlock = some g → _ := fun g hg => h.cells (g := g) hg
  rcases h.2 with ⟨h', _⟩ | ⟨g, cap, cur, rfl, hb, hg, h1, h2, _⟩
  · exact absurd h' hv
  · exact ⟨g, cap, rfl, ⟨(fun e => by cases e), fun _ => ⟨_, rfl, ⟨hb, (Array.getElem?_eq_some_iff.1 hg).1⟩, hc g rfl⟩⟩, h1, h2⟩
theorem Clone_any (K : Nat → Prop) (A : Option Addr) (c : Nat) (l : List Int) (w : World) (h : Rd w K A c (u8s l)) (hn : l.length ≤ 100000000) :
    Calls Try.prog 72 #[.slice A l.length c] w fun e w' => ∃ A' c', e = .returned (.slice A' l.length c') ∧ Rd w' (Fresh w w') A' c' (u8s l) ∧ l.length ≤ c' ∧ c' ≤ maxLen ∧ Below w.heap.size w w' := by
  have q35 : ∀ (w : World) (a : Option Addr) (n c : Nat), (binOp .eql 42 (.slice a n c) (.slice none 0 0)).run Try.prog w = .ok (.bool a.isNone) w := fun w a n c => Lib.run_eql_slice_nil w _ _ _ _ _ _ _ Try.underlying42
  cases A with
  | none =>
    obtain ⟨h1, rfl⟩ := h.nonone rfl
    simp at h1
    subst h1
    go_enter Try.func72, Try.ntmps72
    go_wp2_with fail
    go_ret
    exact ⟨none, 0, rfl, Rd.none_ _ _ _ _ (fun _ => rfl), Nat.le_refl _, by decide, Below.refl _ _⟩
  | some a =>
    obtain ⟨i0, hi, hz0, hz1, hz2⟩ : ∃ i0 : TypeInfo, Try.prog.info? 5 = some i0 ∧ i0.zero = some (.int .u8 0) ∧ i0.size = 1 ∧ i0.bytes = 1 := ⟨_, rfl, rfl, rfl, rfl⟩
    have H := Lib.hid h
    clear h
    have hm0 : (w.alloc (.cells #[] 5)).ownsRow w.heap.size 5 1 (.slice (some ⟨w.heap.size, 0, none⟩) 0 0) 0 [] := World.ownsRow_made w #[] 0 (Nat.le_refl _) (by decide) rfl
    have hc0 : ∀ j u, (u8s l)[j]? = some u → (w.alloc (.cells #[] 5)).cell? (a.add j) = some u := by
      intro j u hu
      obtain ⟨a', e', _, hc⟩ := H.out.2 (by intro e; rw [e] at hu; cases hu)
      injection e' with e'
      subst e'
      have h1 := hc j u hu
      rw [World.cell?_of_block (heap_alloc_old w _ (World.block_lt_of_cell? w _ h1))]
      exact h1
    go_enter Try.func72, Try.ntmps72
    go_wp2_with (at_builtin; refine wpList_append_own _ rfl _ _ 42 rfl w.heap.size 5 i0 (.int .u8 0) 1 1 Try.underlying42 hi hz0 hz1 hz2 rfl (by decide) (.slice (some ⟨w.heap.size, 0, none⟩) 0 0) 0 [] rfl hm0 a l.length c (u8s l) rfl (by simp) hc0 (u8s_one _) (by unfold maxLen; omega) (by omega) (by simp) ?_; intro v' w1 hown hgrow hv)
    simp only [Nat.zero_add, List.nil_append] at hown
    have hbel : Below w.heap.size w w1 := ((Below.refl w.heap.size w).alloc (Nat.le_refl _) _).grown hgrow (by simp) (by intro k e; simp [Value.ownBlock] at e; omega)
    have hrd := own_rd hown (fun e => nomatch (hv.1 e).1)
    clear hown hgrow hv
    obtain ⟨g, cap, rfl, hr, h1, h2⟩ := hrd
    go_ret
    exact ⟨_, _, rfl, hr, h1, h2, hbel⟩

theorem frozen_blk {w : World} {g : Nat} {cs : Array Value} {t : TypeId} (h : w.heap[g]? = some (.cells cs t (0, 0))) (j : Nat) : w.frozen? ⟨g, j, none⟩ = false := by simp [World.frozen?, h]
theorem cells6 {w : World} {g : Nat} {c0 c1 c2 c3 c4 c5 : Value} {t : TypeId} (h : w.heap[g]? = some (.cells #[c0, c1, c2, c3, c4, c5] t (0, 0))) :
    w.cell? ⟨g, 0, none⟩ = some c0 ∧ w.cell? ⟨g, 1, none⟩ = some c1 ∧ w.cell? ⟨g, 2, none⟩ = some c2 ∧ w.cell? ⟨g, 3, none⟩ = some c3 ∧ w.cell? ⟨g, 4, none⟩ = some c4 ∧ w.cell? ⟨g, 5, none⟩ = some c5 := by
  simp [World.cell?, h]

theorem own_any (K : Nat → Prop) (e : En) (A : Option Addr) (c : Nat) (w : World) (h : Rd w K A c (u8s e.data)) (hK : ∀ b, K b → b < w.heap.size) (hn : e.data.length ≤ 100000000) :
    Calls Try.prog 58 #[enA e A c] w fun x w' => ∃ A' c', x = .returned (enA e A' c') ∧ Rd w' (Fresh w w') A' c' (u8s e.data) ∧ e.data.length ≤ c' ∧ c' ≤ maxLen ∧ Below w.heap.size w w' := by
  unfold enA enV
  go_enter Try.func58, Try.ntmps58
  go_wp2_with fail
  refine (Clone_any K A c e.data _ (h.keep (fun b hb => ?_) (fun _ h => h)) hn).mono ?_
  · exact keep2 _ _ _ _ (hK b hb)
  rintro x w1 ⟨A', c', rfl, hr, h1, h2, hb⟩
  have hbe := below2 w (.cells #[.int .i64 e.term, .int .u8 e.kind, .int .i64 e.ver, .int .i64 e.srv, .bool e.good, .slice A e.data.length c] 44) (.cells #[.int .i64 0, .int .u8 0, .int .i64 0, .int .i64 0, .bool false, .slice none 0 0] 44) 0
  have hB1 : Below w.heap.size w w1 := hbe.trans (hb.mono (by simp; omega))
  have b0 : w1.heap[w.heap.size]? = some (.cells #[.int .i64 e.term, .int .u8 e.kind, .int .i64 e.ver, .int .i64 e.srv, .bool e.good, .slice A e.data.length c] 44 (0, 0)) := (hb.block _ (by simp; omega)).trans (heap_alloc2_old w _ _)
  have b1 : w1.heap[w.heap.size + 1]? = some (.cells #[.int .i64 0, .int .u8 0, .int .i64 0, .int .i64 0, .bool false, .slice none 0 0] 44 (0, 0)) := (hb.block _ (by simp)).trans (heap_alloc2_new w _ _)
  clear hb hbe
  have f0 := frozen_blk b0
  have f1 := frozen_blk b1
  obtain ⟨a0, a1, a2, a3, a4, a5⟩ := cells6 b0
  obtain ⟨d0, d1, d2, d3, d4, d5⟩ := cells6 b1
  have B0 := Lib.hid b0
  have B1 := Lib.hid b1
  clear b0 b1
  go_wp2_with fail
  refine bodyPost_ret (v := .agg #[.int .i64 e.term, .int .u8 e.kind, .int .i64 e.ver, .int .i64 e.srv, .bool e.good, .slice A' e.data.length c']) (by simp [results, Try.results58, go_sem, d0, d1, d2, d3, d4, d5]) rfl ⟨A', c', rfl, ?_, h1, h2, ?_⟩
  · refine hr.keep (fun b hb => ?_) (fun b hb => ?_)
    · have h3 : w.heap.size + 2 ≤ b := by have := hb.1; simp at this; omega
      iterate 7 rw [Below.heap_setCell _ _ _ _ (by show b ≠ _; simp only []; omega)]
    · have h3 : w.heap.size + 2 ≤ b := by have := hb.1; simp at this; omega
      exact ⟨by omega, by simpa [World.setCell] using hb.2⟩
  · exact ((((((hB1.setCell (Nat.le_refl _) _).setCell (Nat.le_succ _) _).setCell (Nat.le_succ _) _).setCell (Nat.le_succ _) _).setCell (Nat.le_succ _) _).setCell (Nat.le_succ _) _).setCell (Nat.le_succ _) _
end Go.Proofs.Ythfofnfkopnbhaa
