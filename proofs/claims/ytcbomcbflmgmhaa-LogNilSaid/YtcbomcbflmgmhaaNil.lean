/- No log, and one that nobody made: over this seat's program. -/
import Derived.Test.YtcbomcbflmgmhaaAwake
namespace Go.Proofs.Ytcbomcbflmgmhaa
open Go.RowKit
set_option linter.unusedVariables false

/-- No log, or one that nobody made. -/
def Unk (w : World) (v : Value) : Prop := v = .pointer none ∨ ∃ p, v = .pointer (some ⟨p, 0, none⟩) ∧ w.heap[p]? = some (.cells #[.slice none 0 0, .bool false] 42 (0, 0))
theorem Unk.below {w w' : World} {v : Value} (h : Unk w v) (hb : Below w.heap.size w w') : Unk w' v := by
  rcases h with h | ⟨p, h, hp⟩
  · exact .inl h
  · exact .inr ⟨p, h, (hb.block p (Array.getElem?_eq_some_iff.1 hp).1).trans hp⟩
theorem known_unk (v : Value) (w : World) (h : Unk w v) : Calls Try.prog 20 #[v] w fun e w' => e = .returned (.bool false) ∧ w = w' := by
  rcases h with rfl | ⟨p, rfl, hp⟩
  · exact known_nil w
  · exact known_false p w (by rw [cell_of_row _ _ 1 _ _ _ hp]; rfl)
theorem Last_unk (v : Value) (w : World) (h : Unk w v) : Calls Try.prog 13 #[v] w fun e w' => e = .returned (.tuple #[.int .i64 0, .int .i64 0]) ∧ w = w' := by
  go_enter Try.func13, Try.ntmps13
  go_wp2_with (go_at_call 20; refine (known_unk v _ h).mono ?_; rintro _ w1 ⟨rfl, rfl⟩)
  go_ret2
  exact ⟨rfl, rfl⟩
theorem Term_unk (v : Value) (i : Int) (w : World) (h : Unk w v) : Calls Try.prog 8 #[v, .int .i64 i] w fun e w' => e = .returned (.tuple #[.int .i64 0, .bool false]) ∧ w = w' := by
  go_enter Try.func8, Try.ntmps8
  go_wp2_with (go_at_call 20; refine (known_unk v _ h).mono ?_; rintro _ w1 ⟨rfl, rfl⟩)
  go_ret2
  exact ⟨rfl, rfl⟩
theorem Fit_unk (v : Value) (i t : Int) (s : Value) (w : World) (h : Unk w v) : Calls Try.prog 9 #[v, .int .i64 i, .int .i64 t, s] w fun e w' => e = .returned (.tuple #[.int .i64 0, .int .i64 0, .bool false]) ∧ w = w' := by
  go_enter Try.func9, Try.ntmps9
  go_wp2_with (go_at_call 20; refine (known_unk v _ h).mono ?_; rintro _ w1 ⟨rfl, rfl⟩)
  go_ret3
  exact ⟨rfl, rfl⟩
theorem At_unk (v : Value) (i : Int) (w : World) (h : Unk w v) : Calls Try.prog 14 #[v, .int .i64 i] w fun e w' => e = .returned (.tuple #[enA en0 none 0, .bool false]) ∧ Below w.heap.size w w' := by
  have hb : Below w.heap.size w (w.alloc (.cells #[.int .i64 0, .int .u8 0, .int .i64 0, .int .i64 0, .bool false, .slice none 0 0] 37)) := (Below.refl _ _).alloc (Nat.le_refl _) _
  go_enter Try.func14, Try.ntmps14
  go_wp2_with (go_at_call 20; refine (known_unk v _ (h.below hb)).mono ?_; rintro _ w1 ⟨rfl, rfl⟩)
  exact bodyPost_ret (v := .tuple #[enA en0 none 0, .bool false]) (by simp [results, Try.results14, go_sem, enA, enV, en0]) rfl ⟨rfl, hb⟩
theorem Put_unk (v : Value) (e : En) (A : Option Addr) (c : Nat) (w : World) (h : Unk w v) : Calls Try.prog 15 #[v, enA e A c] w fun e w' => e = .returned (.int .i64 0) ∧ Below w.heap.size w w' := by
  have hb : Below w.heap.size w (w.alloc (.cells #[.int .i64 e.term, .int .u8 e.kind, .int .i64 e.ver, .int .i64 e.srv, .bool e.good, .slice A e.data.length c] 37)) := (Below.refl _ _).alloc (Nat.le_refl _) _
  unfold enA enV
  go_enter Try.func15, Try.ntmps15
  go_wp2_with (go_at_call 20; refine (known_unk v _ (h.below hb)).mono ?_; rintro _ w1 ⟨rfl, rfl⟩)
  go_ret
  exact ⟨rfl, hb⟩
theorem From_unk (v : Value) (i m : Int) (w : World) (h : Unk w v) : Calls Try.prog 10 #[v, .int .i64 i, .int .i64 m] w fun e w' => e = .returned (.slice none 0 0) ∧ Below w.heap.size w w' := by
  have hb : Below w.heap.size w ((w.alloc (.cells #[.int .i64 m] 3)).alloc (.cells #[.slice none 0 0] 22)) := below2 w _ _ 0
  go_enter Try.func10, Try.ntmps10
  go_wp2_with (go_at_call 20; refine (known_unk v _ (h.below hb)).mono ?_; rintro _ w1 ⟨rfl, rfl⟩)
  go_ret
  exact ⟨rfl, hb⟩
end Go.Proofs.Ytcbomcbflmgmhaa
