/- disk: what is done to no disk. -/
import Derived.Test.YtcmbeolicopicaaDCopy2
namespace Go.Proofs.Ytcmbeolicopicaa
open Go.RowKit Go.Maps Go.ChangeMaps
set_option linter.unusedVariables false
set_option linter.unusedSectionVars false
set_option linter.unusedSimpArgs false
set_option maxRecDepth 100000

/-- No disk, or one that nobody made. -/
def ND (v : Value) (w : World) : Prop := v = .pointer none ∨ ∃ D, v = .pointer (some ⟨D, 0, none⟩) ∧ Bk w D 49 [.map none, .int .i64 0]
theorem ND.below {v : Value} {w w' : World} (h : ND v w) (hb : Below w.heap.size w w') : ND v w' := by
  rcases h with h | ⟨D, h, hD⟩
  · exact .inl h
  · exact .inr ⟨D, h, hD.below hb hD.lt⟩
theorem run_neq_map0 (w : World) : (binOp .neq 45 (.map none) (.map none)).run Try.prog w = .ok (.bool false) w := run_neq_map_nil w _ _ _ none Try.underlying45
theorem known_not {v : Value} {w : World} (h : ND v w) : Calls Try.prog 23 #[v] w fun e w' => e = .returned (.bool false) ∧ w = w' := by
  have hm := run_neq_map0
  rcases h with rfl | ⟨D, rfl, hD⟩
  · go_enter Try.func23, Try.ntmps23
    go_wp2_with fail
    go_ret
    exact ⟨rfl, rfl⟩
  · have c0 := hD.cell 0
    simp only [List.getElem?_cons_zero] at c0
    go_enter Try.func23, Try.ntmps23
    go_wp2_with fail
    go_ret
    exact ⟨rfl, rfl⟩
section
variable {v : Value} {w : World} (h : ND v w) (s : Nm)
include h
theorem with_not (fv : Value) : Calls Try.prog 21 #[v, nmV s, fv] w fun e w' => e = .returned (.int .i64 1) ∧ w = w' := by
  have hk := known_not h
  unfold nmV at *
  go_enter Try.func21, Try.ntmps21
  go_wp2_with fail
  (with_reducible refine hk.mono ?_)
  rintro _ _ ⟨rfl, rfl⟩
  clear hk
  go_wp2_with fail
  go_ret
  exact ⟨rfl, rfl⟩
theorem sync_not : Calls Try.prog 8 #[v, nmV s] w fun e w' => e = .returned (.int .i64 1) ∧ Below w.heap.size w w' := by
  have hw := with_not h s (.func (.func 22) #[] #[])
  unfold nmV at *
  go_enter Try.func8, Try.ntmps8
  go_wp2_with fail
  (with_reducible refine hw.mono ?_)
  rintro _ _ ⟨rfl, rfl⟩
  go_wp2_with fail
  go_ret
  exact ⟨rfl, Below.refl _ _⟩
theorem cut_not (m : Int) : Calls Try.prog 17 #[v, nmV s, .int .i64 m] w fun e w' => e = .returned (.int .i64 1) ∧ Below w.heap.size w w' := by
  have hb1 : Below w.heap.size w (w.alloc (.cells #[.int .i64 m] 3)) := (Below.refl _ _).alloc (Nat.le_refl _) _
  have hw := with_not (h.below hb1) s (.func (.func 31) #[] #[.pointer (some ⟨w.heap.size, 0, none⟩)])
  unfold nmV at *
  go_enter Try.func17, Try.ntmps17
  go_wp2_with fail
  (with_reducible refine hw.mono ?_)
  rintro _ _ ⟨rfl, rfl⟩
  clear hw
  go_wp2_with fail
  go_ret
  exact ⟨rfl, hb1⟩
theorem crash_not (m : Int) : Calls Try.prog 10 #[v, .int .i64 m] w fun e w' => e = .returned (.int .i64 1) ∧ Below w.heap.size w w' := by
  have hk := known_not h
  go_enter Try.func10, Try.ntmps10
  go_wp2_with fail
  (with_reducible refine hk.mono ?_)
  rintro _ _ ⟨rfl, rfl⟩
  clear hk
  go_wp2_with fail
  go_ret
  exact ⟨rfl, Below.refl _ _⟩
theorem used_not : Calls Try.prog 14 #[v] w fun e w' => e = .returned (.int .i64 0) ∧ Below w.heap.size w w' := by
  have hk := known_not h
  go_enter Try.func14, Try.ntmps14
  go_wp2_with fail
  (with_reducible refine hk.mono ?_)
  rintro _ _ ⟨rfl, rfl⟩
  clear hk
  go_wp2_with fail
  go_ret
  exact ⟨rfl, Below.refl _ _⟩
theorem list_not : Calls Try.prog 16 #[v] w fun e w' => e = .returned (.slice none 0 0) ∧ Below w.heap.size w w' := by
  have hk := known_not h
  go_enter Try.func16, Try.ntmps16
  go_wp2_with fail
  (with_reducible refine hk.mono ?_)
  rintro _ _ ⟨rfl, rfl⟩
  clear hk
  go_wp2_with fail
  go_ret
  exact ⟨rfl, Below.refl _ _⟩
theorem copy_not : Calls Try.prog 13 #[v] w fun e w' => e = .returned (.pointer none) ∧ Below w.heap.size w w' := by
  have hk := known_not h
  go_enter Try.func13, Try.ntmps13
  go_wp2_with fail
  (with_reducible refine hk.mono ?_)
  rintro _ _ ⟨rfl, rfl⟩
  clear hk
  go_wp2_with fail
  go_ret
  exact ⟨rfl, Below.refl _ _⟩
theorem append_not (b : Value) : Calls Try.prog 15 #[v, nmV s, b] w fun e w' => e = .returned (.int .i64 1) ∧ Below w.heap.size w w' := by
  have hk := known_not h
  unfold nmV at *
  go_enter Try.func15, Try.ntmps15
  go_wp2_with fail
  (with_reducible refine hk.mono ?_)
  rintro _ _ ⟨rfl, rfl⟩
  clear hk
  go_wp2_with fail
  go_ret
  exact ⟨rfl, Below.refl _ _⟩
theorem remove_not : Calls Try.prog 19 #[v, nmV s] w fun e w' => e = .returned (.int .i64 1) ∧ Below w.heap.size w w' := by
  have hb1 : Below w.heap.size w ((w.alloc (.cells #[v] 24)).alloc (.cells #[nmV s] 9)) := ((Below.refl _ _).alloc (Nat.le_refl _) _).alloc (by simp) _
  have hw := with_not (h.below hb1) s (.func (.func 33) #[] #[.pointer (some ⟨w.heap.size, 0, none⟩), .pointer (some ⟨w.heap.size + 1, 0, none⟩)])
  rcases h with rfl | ⟨D, rfl, hD⟩ <;> (
    unfold nmV at *
    go_enter Try.func19, Try.ntmps19
    go_wp2_with fail
    (with_reducible refine hw.mono ?_)
    rintro _ _ ⟨rfl, rfl⟩
    clear hw
    go_wp2_with fail
    go_ret
    exact ⟨rfl, hb1⟩)
theorem rename_not (t : Nm) : Calls Try.prog 18 #[v, nmV s, nmV t] w fun e w' => e = .returned (.int .i64 1) ∧ Below w.heap.size w w' := by
  have hb1 : Below w.heap.size w (((w.alloc (.cells #[v] 24)).alloc (.cells #[nmV s] 9)).alloc (.cells #[nmV t] 9)) := (((Below.refl _ _).alloc (Nat.le_refl _) _).alloc (by simp) _).alloc (by simp; omega) _
  have hk := known_not (h.below hb1)
  rcases h with rfl | ⟨D, rfl, hD⟩ <;> (
    unfold nmV at *
    go_enter Try.func18, Try.ntmps18
    go_wp2_with fail
    (with_reducible refine hk.mono ?_)
    rintro _ _ ⟨rfl, rfl⟩
    clear hk
    go_wp2_with fail
    go_ret
    exact ⟨rfl, hb1⟩)
theorem read_not : Calls Try.prog 11 #[v, nmV s] w fun e w' => e = .returned (.tuple #[.slice none 0 0, .int .i64 1]) ∧ Below w.heap.size w w' := by
  have hb1 : Below w.heap.size w (w.alloc (.cells #[.slice none 0 0] 29)) := (Below.refl _ _).alloc (Nat.le_refl _) _
  have hX : Bk (w.alloc (.cells #[.slice none 0 0] 29)) w.heap.size 29 [.slice none 0 0] := Bk.new w 29 [.slice none 0 0]
  have hw := with_not (h.below hb1) s (.func (.func 25) #[] #[.pointer (some ⟨w.heap.size, 0, none⟩)])
  unfold nmV at *
  go_enter Try.func11, Try.ntmps11
  go_wp2_with fail
  generalize (w.alloc (.cells #[.slice none 0 0] 29)) = w1 at *
  (with_reducible refine hw.mono ?_)
  rintro _ _ ⟨rfl, rfl⟩
  clear hw
  have x0 := hX.cell 0
  have z0 := hX.frozen 0
  simp only [List.getElem?_cons_zero] at x0
  have y0 := (hX.set 0 (.slice none 0 0)).cell 0
  simp only [List.getElem?_cons_zero, List.set_cons_zero] at y0
  have hb4 := hb1.setCell (p := ⟨w.heap.size, 0, none⟩) (Nat.le_refl _) (.slice none 0 0)
  go_wp2_with fail
  exact bodyPost_ret (v := .tuple #[.slice none 0 0, .int .i64 1]) (by simp [results, Try.results11, go_sem, y0]) rfl ⟨rfl, hb4⟩
end
end Go.Proofs.Ytcmbeolicopicaa

