/- net: New, known, full, Waiting. -/
import Derived.Test.YtenkhbiikecegaaGreatNSt
import Derived.WalkSpells
import Derived.Deep.RegionHeld3
import Derived.StillTailTactics
import Derived.Carry
namespace Go.Proofs.YtenkhbiikecegaaGreat
open Go.RowKit Go.Maps Go.ChangeMaps
set_option linter.unusedVariables false
set_option maxRecDepth 100000

theorem nmap (w : World) (r : Option Nat) : (binOp .neq 44 (.map r) (.map none)).run Tryz.prog w = .ok (.bool (!r.isNone)) w :=
  by simp [run_neq_map_nil w _ _ _ r mapTy]

theorem known_any (N : Nat) (m : Nat) (w : World) (h : Bk w N 48 [.map (some m)]) :
    Calls Tryz.prog 28 #[.pointer (some ⟨N, 0, none⟩)] w fun e w' => e = .returned (.bool true) ∧ w = w' := by
  have c0 := h.cell 0
  simp only [List.getElem?_cons_zero] at c0
  have q := nmap
  go_enter Tryz.func28, Tryz.ntmps28
  go_wp2_with fail
  go_ret
  exact ⟨rfl, rfl⟩
theorem known_nil (w : World) :
    Calls Tryz.prog 28 #[.pointer none] w fun e w' => e = .returned (.bool false) ∧ w = w' := by
  have q := nmap
  go_enter Tryz.func28, Tryz.ntmps28
  go_wp2_with fail
  go_ret
  exact ⟨rfl, rfl⟩
theorem known_zero (N : Nat) (w : World) (h : w.cell? ⟨N, 0, none⟩ = some (.map none)) :
    Calls Tryz.prog 28 #[.pointer (some ⟨N, 0, none⟩)] w fun e w' => e = .returned (.bool false) ∧ w = w' := by
  have q := nmap
  go_enter Tryz.func28, Tryz.ntmps28
  go_wp2_with fail
  go_ret
  exact ⟨rfl, rfl⟩
/-- New. -/
theorem new_any (w : World) :
    Calls Tryz.prog 5 #[] w fun e w' => ∃ N m, e = .returned (.pointer (some ⟨N, 0, none⟩)) ∧ NetAt w' (fun b => w.heap.size ≤ b) N ⟨m, []⟩ ∧ w.heap.size ≤ N ∧ w.heap.size ≤ m ∧ Below w.heap.size w w' := by
  have hmm := @run_makeMap Tryz.prog
  go_enter Tryz.func5, Tryz.ntmps5
  go_wp2_with fail
  go_ret
  refine ⟨w.heap.size + 1, w.heap.size, rfl, ?_, by omega, by omega, ((Below.refl _ _).alloc (Nat.le_refl _) _).alloc (by simp) _⟩
  refine ⟨?_, ⟨[], 0, ?_, EsOk.nil _ _, rfl⟩, fun r hr => by simp at hr, List.Pairwise.nil⟩
  · have := Bk.new (w.alloc (.map #[] 0)) 48 [.map (some w.heap.size)]
    rwa [World.size_alloc] at this
  · exact (heap_alloc_old _ _ (by simp)).trans (heap_alloc_new w _)
/-- full. -/
theorem full_any {K : Nat → Prop} {N : Nat} {st : NSt} (a b : Int) (ha : I64 a) (hb : I64 b) (w : World) (h : NetAt w K N st) :
    Calls Tryz.prog 37 #[.pointer (some ⟨N, 0, none⟩), linkV a b] w fun e w' => e = .returned (.bool (decide (64 ≤ (sig st a b).length))) ∧ Below w.heap.size w w' := by
  have hb0 := (Below.refl w.heap.size w).alloc (Nat.le_refl _) (.cells #[.int .i64 a, .int .i64 b] 58)
  obtain ⟨A, c, hl, _⟩ := (h.below hb0).look ha hb
  have c0 : (w.alloc (.cells #[.int .i64 a, .int .i64 b] 58)).cell? ⟨N, 0, none⟩ = some (.map (some st.m)) := by
    have := (h.below hb0).net.cell 0
    simpa using this
  have hl0 := hl _ rfl
  have hl : ∀ n, (Instr.lookup 44 (.map (some st.m)) (linkV a b) false).run Tryz.prog ((w.alloc (.cells #[.int .i64 a, .int .i64 b] 58)).drewN n) = .ok (.slice A (sig st a b).length c) ((w.alloc (.cells #[.int .i64 a, .int .i64 b] 58)).drewN n) := fun n => hl _ rfl
  unfold linkV at hl hl0 ⊢
  have q := nmap
  go_enter Tryz.func37, Tryz.ntmps37
  go_wp2_with fail
  go_quiet (fail)
  go_wp2_with fail
  go_ret
  exact ⟨by rw [show decide ((64 : Int) ≤ ((sig st a b).length : Int)) = decide (64 ≤ (sig st a b).length) from decide_eq_decide.2 (by omega)]; rfl, ⟨hb0.os, hb0.tape, hb0.output, hb0.size, hb0.block⟩⟩
/-- Waiting, where there is a net. -/
theorem Waiting_any {K : Nat → Prop} {N : Nat} {st : NSt} (a b : Int) (ha : I64 a) (hb : I64 b) (w : World) (h : NetAt w K N st) :
    Calls Tryz.prog 9 #[.pointer (some ⟨N, 0, none⟩), .int .i64 a, .int .i64 b] w fun e w' => e = .returned (.int .i64 (sig st a b).length) ∧ Below w.heap.size w w' := by
  obtain ⟨A, c, hl1, _⟩ := h.look ha hb
  have hl0 := hl1 _ rfl
  have hl : ∀ n, (Instr.lookup 44 (.map (some st.m)) (linkV a b) false).run Tryz.prog (w.drewN n) = .ok (.slice A (sig st a b).length c) (w.drewN n) := fun n => hl1 _ rfl
  have c0 : w.cell? ⟨N, 0, none⟩ = some (.map (some st.m)) := by
    have := h.net.cell 0
    simpa using this
  have kn := known_any N st.m w h.net
  unfold linkV at hl hl0
  have q := nmap
  go_enter Tryz.func9, Tryz.ntmps9
  go_wp2_with ((with_reducible refine kn.mono ?_); rintro e w' ⟨rfl, rfl⟩)
  go_ret
  exact ⟨rfl, Below.refl _ _⟩
theorem Waiting_nil (a b : Int) (w : World) :
    Calls Tryz.prog 9 #[.pointer none, .int .i64 a, .int .i64 b] w fun e w' => e = .returned (.int .i64 0) ∧ w = w' := by
  have kn := known_nil w
  go_enter Tryz.func9, Tryz.ntmps9
  go_wp2_with ((with_reducible refine kn.mono ?_); rintro e w' ⟨rfl, rfl⟩)
  go_ret
  exact ⟨rfl, rfl⟩
theorem Waiting_zero (N : Nat) (a b : Int) (w : World) (h : w.cell? ⟨N, 0, none⟩ = some (.map none)) :
    Calls Tryz.prog 9 #[.pointer (some ⟨N, 0, none⟩), .int .i64 a, .int .i64 b] w fun e w' => e = .returned (.int .i64 0) ∧ w = w' := by
  have kn := known_zero N w h
  go_enter Tryz.func9, Tryz.ntmps9
  go_wp2_with ((with_reducible refine kn.mono ?_); rintro e w' ⟨rfl, rfl⟩)
  go_ret
  exact ⟨rfl, rfl⟩
end Go.Proofs.YtenkhbiikecegaaGreat
