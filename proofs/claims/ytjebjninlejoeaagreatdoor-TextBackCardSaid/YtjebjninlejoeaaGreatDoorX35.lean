/- text, the walk: jumps land. -/
import Derived.Test.YtjebjninlejoeaaGreatDoorX32
namespace Go.Proofs.YtjebjninlejoeaaGreatDoor
open Go.RowKit Go.Maps Go.ChangeMaps
set_option linter.unusedVariables false
set_option linter.unusedSimpArgs false
set_option linter.unusedSectionVars false
set_option maxRecDepth 100000

theorem own_form {w : World} {base size n : Nat} {e : TypeId} {v : Value} {xs : List Value} (h : w.ownsRow base e size v n xs) (hn : 0 < n) : ∃ g cap, v = .slice (some ⟨g, 0, none⟩) n cap := by
  rcases h.2 with ⟨rfl, h0⟩ | ⟨g, cap, cur, hv, _⟩
  · omega
  · exact ⟨g, cap, hv⟩
theorem own_slice {w : World} {base size n : Nat} {e : TypeId} {v : Value} {xs : List Value} (h : w.ownsRow base e size v n xs) : ∃ A cap, v = .slice A n cap := by
  rcases h.2 with ⟨rfl, h0⟩ | ⟨g, cap, cur, hv, _⟩
  · subst h0; exact ⟨_, _, rfl⟩
  · exact ⟨_, cap, hv⟩
def offI (o : Int) (i : IV) : IV := { i with off := o }
theorem outC_modify (o : Int) : ∀ (l : List IV) (k : Nat), outC (l.modify k (offI o)) = (outC l).set (k * 8 + 5) (.int .i64 o)
  | [], k => by cases k <;> simp [outC]
  | i :: l, 0 => by simp [outC, ivV, offI]
  | i :: l, k + 1 => by
    have ih := outC_modify o l k
    simp only [List.modify_succ_cons]
    rw [show outC (i :: l.modify k (offI o)) = ivV i ++ outC (l.modify k (offI o)) from rfl, show outC (i :: l) = ivV i ++ outC l from rfl, ih, List.set_append_right _ _ (by simp [ivV]; omega)]
    congr 2
    simp [ivV]; omega
theorem PsAt.turned {w : World} {B P Wm M g cap : Nat} {st : PS} {vj : Value} (h : PsAt w B P Wm M st (.slice (some ⟨g, 0, none⟩) st.out.length cap) vj) (k : Nat) (o : Int) : PsAt (w.setCell ⟨g, k * 8 + 5, none⟩ (.int .i64 o)) B P Wm M { st with out := st.out.modify k (offI o) } (.slice (some ⟨g, 0, none⟩) st.out.length cap) vj := by
  have hg : (Value.slice (some ⟨g, 0, none⟩) st.out.length cap).ownBlock = some g := rfl
  obtain ⟨n1, n2, n3, n4⟩ := h.no g hg
  have e := (h.out.stored (k * 8 + 5) (.int .i64 o)).1
  rw [← outC_modify] at e
  refine ⟨(Below.heap_setCell w _ _ P (fun q => n1 q.symm)).trans h.bk, ?_, own_keep h.jumps fun b hb => Below.heap_setCell w _ _ b (fun q => n4 (by have q : b = g := q; rw [← q]; exact hb)), h.ways.keep (Below.heap_setCell w _ _ Wm (fun q => n2 q.symm)), h.marks.keep (Below.heap_setCell w _ _ M (fun q => n3 q.symm)), h.lo, h.ne, h.no, h.nj⟩
  rw [show ({ st with out := st.out.modify k (offI o) } : PS).out = st.out.modify k (offI o) from rfl, List.length_modify]
  exact e
end Go.Proofs.YtjebjninlejoeaaGreatDoor

