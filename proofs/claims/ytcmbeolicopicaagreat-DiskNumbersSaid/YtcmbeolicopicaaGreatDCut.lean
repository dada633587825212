/- disk: Cut. -/
import Derived.Deep.RegionHeld3
import Derived.Test.YtcmbeolicopicaaGreatZ3
namespace Go.Proofs.YtcmbeolicopicaaGreat
open Go.RowKit Go.Maps Go.ChangeMaps
set_option linter.unusedVariables false
set_option linter.unusedSimpArgs false
set_option maxRecDepth 100000

theorem FAt.heap_ {w w' : World} {f : DF} (h : FAt w f) (e : w'.heap = w.heap) : FAt w' f := h.keep (by rw [e]) (fun _ _ => by rw [e]) (by rw [e]; exact Nat.le_refl _)
/-- A file was cut. -/
def CutTo (f : DF) (k : Nat) (W W' : World) : Prop := ∃ A' c', FAt W' ⟨f.s, f.g, A', c', f.l.take k, k⟩ ∧ (∀ b, (Value.slice A' (f.l.take k).length c').ownBlock = some b → W.heap.size ≤ b) ∧ Ag (fun j => j ≠ f.g) W W'
section
variable {W : World} {f : DF} {X : Nat} (hF : FAt W f) (m : Int) (hX : Bk W X 3 [.int .i64 m])
include hF hX
theorem cut1_bad (hm : ¬ (0 ≤ m ∧ m ≤ f.l.length)) : Calls Tryz.prog 55 #[f.val, .pointer (some ⟨X, 0, none⟩)] W fun e w' => e = .returned (.int .i64 2) ∧ Below W.heap.size W w' := by
  have x0 := hX.cell 0
  have q0 := hF.bk.cell 0
  simp only [List.getElem?_cons_zero, DF.dv] at x0 q0
  unfold DF.val
  by_cases h1 : m < 0
  · have d1 : decide (m < 0) = true := decide_eq_true h1
    go_enter Tryz.func55, Tryz.ntmps55
    go_wp2_with fail
    refine wp_region_held_drew (S := fun w' => w'.cell? ⟨X, 0, none⟩ = some (.int .i64 m)) (by kernel_rfl) (by simpa using x0) (fun hS => ?_)
    refine wpAnyH_take (i := 0) (v := ?_) rfl (by kernel_rfl) (by kernel_rfl) (by kernel_rfl) (fun _ _ _ h => h) (Or.inl ⟨by rfl, ?_⟩) hS ?_
    rotate_left 1
    · intro w' hSw
      go_simp <;> with_reducible rfl
    try simp only [List.getElem_toArray, List.getElem_cons_zero, List.getElem_cons_succ, Act.put, List.setIfInBounds_toArray, List.set_cons_zero, List.set_cons_succ]
    refine wpAnyH_take (i := 1) (v := ?_) rfl (by kernel_rfl) (by kernel_rfl) (by kernel_rfl) (fun _ _ _ h => h) (Or.inl ⟨by rfl, ?_⟩) hS ?_
    rotate_left 1
    · intro w' hSw
      go_simp <;> with_reducible rfl
    try simp only [List.getElem_toArray, List.getElem_cons_zero, List.getElem_cons_succ, Act.put, List.setIfInBounds_toArray, List.set_cons_zero, List.set_cons_succ]
    refine wpAnyH_take (i := 2) (v := ?_) rfl (by kernel_rfl) (by kernel_rfl) (by kernel_rfl) (fun _ _ _ h => h) (Or.inl ⟨by rfl, ?_⟩) hS ?_
    rotate_left 1
    · intro w' hSw
      go_simp <;> with_reducible rfl
    try simp only [List.getElem_toArray, List.getElem_cons_zero, List.getElem_cons_succ, Act.put, List.setIfInBounds_toArray, List.set_cons_zero, List.set_cons_succ]
    refine wpAnyH_take (i := 3) (v := undef) rfl (by kernel_rfl) (by kernel_rfl) (by kernel_rfl) (fun _ _ _ h => h) (Or.inr ⟨by go_simp, rfl⟩) hS ?_
    try simp only [List.getElem_toArray, List.getElem_cons_zero, List.getElem_cons_succ, Act.put, List.setIfInBounds_toArray, List.set_cons_zero, List.set_cons_succ]
    refine wpAnyH_take (i := 4) (v := undef) rfl (by kernel_rfl) (by kernel_rfl) (by kernel_rfl) (fun _ _ _ h => h) (Or.inr ⟨by go_simp, rfl⟩) hS ?_
    try simp only [List.getElem_toArray, List.getElem_cons_zero, List.getElem_cons_succ, Act.put, List.setIfInBounds_toArray, List.set_cons_zero, List.set_cons_succ]
    refine wpAnyH_take (i := 5) (v := undef) rfl (by kernel_rfl) (by kernel_rfl) (by kernel_rfl) (fun _ _ _ h => h) (Or.inr ⟨by go_simp, rfl⟩) hS ?_
    try simp only [List.getElem_toArray, List.getElem_cons_zero, List.getElem_cons_succ, Act.put, List.setIfInBounds_toArray, List.set_cons_zero, List.set_cons_succ]
    refine wpAnyH_take (i := 6) (v := undef) rfl (by kernel_rfl) (by kernel_rfl) (by kernel_rfl) (fun _ _ _ h => h) (Or.inr ⟨by go_simp, rfl⟩) hS ?_
    try simp only [List.getElem_toArray, List.getElem_cons_zero, List.getElem_cons_succ, Act.put, List.setIfInBounds_toArray, List.set_cons_zero, List.set_cons_succ]
    refine wpAnyH_take (i := 7) (v := undef) rfl (by kernel_rfl) (by kernel_rfl) (by kernel_rfl) (fun _ _ _ h => h) (Or.inr ⟨by go_simp, rfl⟩) hS ?_
    try simp only [List.getElem_toArray, List.getElem_cons_zero, List.getElem_cons_succ, Act.put, List.setIfInBounds_toArray, List.set_cons_zero, List.set_cons_succ]
    refine wpAnyH_take (i := 8) (v := undef) rfl (by kernel_rfl) (by kernel_rfl) (by kernel_rfl) (fun _ _ _ h => h) (Or.inr ⟨by go_simp, rfl⟩) hS ?_
    try simp only [List.getElem_toArray, List.getElem_cons_zero, List.getElem_cons_succ, Act.put, List.setIfInBounds_toArray, List.set_cons_zero, List.set_cons_succ]
    refine wpAnyH_take (i := 9) (v := undef) rfl (by kernel_rfl) (by kernel_rfl) (by kernel_rfl) (fun _ _ _ h => h) (Or.inr ⟨by go_simp, rfl⟩) hS ?_
    try simp only [List.getElem_toArray, List.getElem_cons_zero, List.getElem_cons_succ, Act.put, List.setIfInBounds_toArray, List.set_cons_zero, List.set_cons_succ]
    refine wpAnyH_take (i := 10) (v := ?_) rfl (by kernel_rfl) (by kernel_rfl) (by kernel_rfl) (fun _ _ _ h => h) (Or.inl ⟨by rfl, ?_⟩) hS ?_
    rotate_left 1
    · intro w' hSw
      go_simp <;> with_reducible rfl
    try simp only [List.getElem_toArray, List.getElem_cons_zero, List.getElem_cons_succ, Act.put, List.setIfInBounds_toArray, List.set_cons_zero, List.set_cons_succ]
    refine wpAnyH_done (by kernel_rfl) ?_ _
    go_wp2_with fail
    go_ret
    exact ⟨rfl, (Below.refl _ _).drew⟩
  · have d1 : decide (m < 0) = false := decide_eq_false h1
    have d2 : decide ((f.l.length : Int) < m) = true := decide_eq_true (by omega)
    go_enter Tryz.func55, Tryz.ntmps55
    go_wp2_with fail
    refine wp_region_held_drew (S := fun w' => w'.cell? ⟨X, 0, none⟩ = some (.int .i64 m) ∧ w'.cell? ⟨f.g, 0, none⟩ = some (.slice f.A f.l.length f.c)) (by kernel_rfl) ⟨by simpa using x0, by simpa using q0⟩ (fun hS => ?_)
    refine wpAnyH_take (i := 0) (v := ?_) rfl (by kernel_rfl) (by kernel_rfl) (by kernel_rfl) (fun _ _ _ h => h) (Or.inl ⟨by rfl, ?_⟩) hS ?_
    rotate_left 1
    · intro w' hSw
      go_simp <;> with_reducible rfl
    try simp only [List.getElem_toArray, List.getElem_cons_zero, List.getElem_cons_succ, Act.put, List.setIfInBounds_toArray, List.set_cons_zero, List.set_cons_succ]
    refine wpAnyH_take (i := 1) (v := ?_) rfl (by kernel_rfl) (by kernel_rfl) (by kernel_rfl) (fun _ _ _ h => h) (Or.inl ⟨by rfl, ?_⟩) hS ?_
    rotate_left 1
    · intro w' hSw
      go_simp <;> with_reducible rfl
    try simp only [List.getElem_toArray, List.getElem_cons_zero, List.getElem_cons_succ, Act.put, List.setIfInBounds_toArray, List.set_cons_zero, List.set_cons_succ]
    refine wpAnyH_take (i := 2) (v := ?_) rfl (by kernel_rfl) (by kernel_rfl) (by kernel_rfl) (fun _ _ _ h => h) (Or.inl ⟨by rfl, ?_⟩) hS ?_
    rotate_left 1
    · intro w' hSw
      go_simp <;> with_reducible rfl
    try simp only [List.getElem_toArray, List.getElem_cons_zero, List.getElem_cons_succ, Act.put, List.setIfInBounds_toArray, List.set_cons_zero, List.set_cons_succ]
    refine wpAnyH_take (i := 3) (v := ?_) rfl (by kernel_rfl) (by kernel_rfl) (by kernel_rfl) (fun _ _ _ h => h) (Or.inl ⟨by go_simp, ?_⟩) hS ?_
    rotate_left 1
    · intro w' hSw
      go_simp <;> with_reducible rfl
    try simp only [List.getElem_toArray, List.getElem_cons_zero, List.getElem_cons_succ, Act.put, List.setIfInBounds_toArray, List.set_cons_zero, List.set_cons_succ]
    refine wpAnyH_take (i := 4) (v := ?_) rfl (by kernel_rfl) (by kernel_rfl) (by kernel_rfl) (fun _ _ _ h => h) (Or.inl ⟨by go_simp, ?_⟩) hS ?_
    rotate_left 1
    · intro w' hSw
      go_simp <;> with_reducible rfl
    try simp only [List.getElem_toArray, List.getElem_cons_zero, List.getElem_cons_succ, Act.put, List.setIfInBounds_toArray, List.set_cons_zero, List.set_cons_succ]
    refine wpAnyH_take (i := 5) (v := ?_) rfl (by kernel_rfl) (by kernel_rfl) (by kernel_rfl) (fun _ _ _ h => h) (Or.inl ⟨by go_simp, ?_⟩) hS ?_
    rotate_left 1
    · intro w' hSw
      go_simp <;> with_reducible rfl
    try simp only [List.getElem_toArray, List.getElem_cons_zero, List.getElem_cons_succ, Act.put, List.setIfInBounds_toArray, List.set_cons_zero, List.set_cons_succ]
    refine wpAnyH_take (i := 6) (v := ?_) rfl (by kernel_rfl) (by kernel_rfl) (by kernel_rfl) (fun _ _ _ h => h) (Or.inl ⟨by go_simp, ?_⟩) hS ?_
    rotate_left 1
    · intro w' hSw
      go_simp <;> with_reducible rfl
    try simp only [List.getElem_toArray, List.getElem_cons_zero, List.getElem_cons_succ, Act.put, List.setIfInBounds_toArray, List.set_cons_zero, List.set_cons_succ]
    refine wpAnyH_take (i := 7) (v := ?_) rfl (by kernel_rfl) (by kernel_rfl) (by kernel_rfl) (fun _ _ _ h => h) (Or.inl ⟨by go_simp, ?_⟩) hS ?_
    rotate_left 1
    · intro w' hSw
      go_simp <;> with_reducible rfl
    try simp only [List.getElem_toArray, List.getElem_cons_zero, List.getElem_cons_succ, Act.put, List.setIfInBounds_toArray, List.set_cons_zero, List.set_cons_succ]
    refine wpAnyH_take (i := 8) (v := ?_) rfl (by kernel_rfl) (by kernel_rfl) (by kernel_rfl) (fun _ _ _ h => h) (Or.inl ⟨by go_simp, ?_⟩) hS ?_
    rotate_left 1
    · intro w' hSw
      go_simp <;> with_reducible rfl
    try simp only [List.getElem_toArray, List.getElem_cons_zero, List.getElem_cons_succ, Act.put, List.setIfInBounds_toArray, List.set_cons_zero, List.set_cons_succ]
    refine wpAnyH_take (i := 9) (v := ?_) rfl (by kernel_rfl) (by kernel_rfl) (by kernel_rfl) (fun _ _ _ h => h) (Or.inl ⟨by go_simp, ?_⟩) hS ?_
    rotate_left 1
    · intro w' hSw
      go_simp <;> with_reducible rfl
    try simp only [List.getElem_toArray, List.getElem_cons_zero, List.getElem_cons_succ, Act.put, List.setIfInBounds_toArray, List.set_cons_zero, List.set_cons_succ]
    refine wpAnyH_take (i := 10) (v := ?_) rfl (by kernel_rfl) (by kernel_rfl) (by kernel_rfl) (fun _ _ _ h => h) (Or.inl ⟨by rfl, ?_⟩) hS ?_
    rotate_left 1
    · intro w' hSw
      go_simp <;> with_reducible rfl
    try simp only [List.getElem_toArray, List.getElem_cons_zero, List.getElem_cons_succ, Act.put, List.setIfInBounds_toArray, List.set_cons_zero, List.set_cons_succ]
    refine wpAnyH_done (by kernel_rfl) ?_ _
    go_wp2_with fail
    go_ret
    exact ⟨rfl, (Below.refl _ _).drew⟩
theorem cut1_ok (k : Nat) (hm : m = k) (hk : k ≤ f.l.length) : Calls Tryz.prog 55 #[f.val, .pointer (some ⟨X, 0, none⟩)] W fun e w' => e = .returned (.int .i64 0) ∧ CutTo f k W w' := by
  subst hm
  have x0 := hX.cell 0
  have q0 := hF.bk.cell 0
  simp only [List.getElem?_cons_zero, DF.dv] at x0 q0
  have d1 : decide ((k : Int) < 0) = false := decide_eq_false (by omega)
  have d2 : decide ((f.l.length : Int) < (k : Int)) = false := decide_eq_false (by omega)
  have hcut := cut_any f k W.drew (hF.heap_ rfl) hk
  unfold DF.val at *
  go_enter Tryz.func55, Tryz.ntmps55
  go_wp2_with fail
  refine wp_region_held_drew (S := fun w' => w'.cell? ⟨X, 0, none⟩ = some (.int .i64 k) ∧ w'.cell? ⟨f.g, 0, none⟩ = some (.slice f.A f.l.length f.c)) (by kernel_rfl) ⟨by simpa using x0, by simpa using q0⟩ (fun hS => ?_)
  refine wpAnyH_take (i := 0) (v := ?_) rfl (by kernel_rfl) (by kernel_rfl) (by kernel_rfl) (fun _ _ _ h => h) (Or.inl ⟨by rfl, ?_⟩) hS ?_
  rotate_left 1
  · intro w' hSw
    go_simp <;> with_reducible rfl
  try simp only [List.getElem_toArray, List.getElem_cons_zero, List.getElem_cons_succ, Act.put, List.setIfInBounds_toArray, List.set_cons_zero, List.set_cons_succ]
  refine wpAnyH_take (i := 1) (v := ?_) rfl (by kernel_rfl) (by kernel_rfl) (by kernel_rfl) (fun _ _ _ h => h) (Or.inl ⟨by rfl, ?_⟩) hS ?_
  rotate_left 1
  · intro w' hSw
    go_simp <;> with_reducible rfl
  try simp only [List.getElem_toArray, List.getElem_cons_zero, List.getElem_cons_succ, Act.put, List.setIfInBounds_toArray, List.set_cons_zero, List.set_cons_succ]
  refine wpAnyH_take (i := 2) (v := ?_) rfl (by kernel_rfl) (by kernel_rfl) (by kernel_rfl) (fun _ _ _ h => h) (Or.inl ⟨by rfl, ?_⟩) hS ?_
  rotate_left 1
  · intro w' hSw
    go_simp <;> with_reducible rfl
  try simp only [List.getElem_toArray, List.getElem_cons_zero, List.getElem_cons_succ, Act.put, List.setIfInBounds_toArray, List.set_cons_zero, List.set_cons_succ]
  refine wpAnyH_take (i := 3) (v := ?_) rfl (by kernel_rfl) (by kernel_rfl) (by kernel_rfl) (fun _ _ _ h => h) (Or.inl ⟨by go_simp, ?_⟩) hS ?_
  rotate_left 1
  · intro w' hSw
    go_simp <;> with_reducible rfl
  try simp only [List.getElem_toArray, List.getElem_cons_zero, List.getElem_cons_succ, Act.put, List.setIfInBounds_toArray, List.set_cons_zero, List.set_cons_succ]
  refine wpAnyH_take (i := 4) (v := ?_) rfl (by kernel_rfl) (by kernel_rfl) (by kernel_rfl) (fun _ _ _ h => h) (Or.inl ⟨by go_simp, ?_⟩) hS ?_
  rotate_left 1
  · intro w' hSw
    go_simp <;> with_reducible rfl
  try simp only [List.getElem_toArray, List.getElem_cons_zero, List.getElem_cons_succ, Act.put, List.setIfInBounds_toArray, List.set_cons_zero, List.set_cons_succ]
  refine wpAnyH_take (i := 5) (v := ?_) rfl (by kernel_rfl) (by kernel_rfl) (by kernel_rfl) (fun _ _ _ h => h) (Or.inl ⟨by go_simp, ?_⟩) hS ?_
  rotate_left 1
  · intro w' hSw
    go_simp <;> with_reducible rfl
  try simp only [List.getElem_toArray, List.getElem_cons_zero, List.getElem_cons_succ, Act.put, List.setIfInBounds_toArray, List.set_cons_zero, List.set_cons_succ]
  refine wpAnyH_take (i := 6) (v := ?_) rfl (by kernel_rfl) (by kernel_rfl) (by kernel_rfl) (fun _ _ _ h => h) (Or.inl ⟨by go_simp, ?_⟩) hS ?_
  rotate_left 1
  · intro w' hSw
    go_simp <;> with_reducible rfl
  try simp only [List.getElem_toArray, List.getElem_cons_zero, List.getElem_cons_succ, Act.put, List.setIfInBounds_toArray, List.set_cons_zero, List.set_cons_succ]
  refine wpAnyH_take (i := 7) (v := ?_) rfl (by kernel_rfl) (by kernel_rfl) (by kernel_rfl) (fun _ _ _ h => h) (Or.inl ⟨by go_simp, ?_⟩) hS ?_
  rotate_left 1
  · intro w' hSw
    go_simp <;> with_reducible rfl
  try simp only [List.getElem_toArray, List.getElem_cons_zero, List.getElem_cons_succ, Act.put, List.setIfInBounds_toArray, List.set_cons_zero, List.set_cons_succ]
  refine wpAnyH_take (i := 8) (v := ?_) rfl (by kernel_rfl) (by kernel_rfl) (by kernel_rfl) (fun _ _ _ h => h) (Or.inl ⟨by go_simp, ?_⟩) hS ?_
  rotate_left 1
  · intro w' hSw
    go_simp <;> with_reducible rfl
  try simp only [List.getElem_toArray, List.getElem_cons_zero, List.getElem_cons_succ, Act.put, List.setIfInBounds_toArray, List.set_cons_zero, List.set_cons_succ]
  refine wpAnyH_take (i := 9) (v := ?_) rfl (by kernel_rfl) (by kernel_rfl) (by kernel_rfl) (fun _ _ _ h => h) (Or.inl ⟨by go_simp, ?_⟩) hS ?_
  rotate_left 1
  · intro w' hSw
    go_simp <;> with_reducible rfl
  try simp only [List.getElem_toArray, List.getElem_cons_zero, List.getElem_cons_succ, Act.put, List.setIfInBounds_toArray, List.set_cons_zero, List.set_cons_succ]
  refine wpAnyH_take (i := 10) (v := ?_) rfl (by kernel_rfl) (by kernel_rfl) (by kernel_rfl) (fun _ _ _ h => h) (Or.inl ⟨by rfl, ?_⟩) hS ?_
  rotate_left 1
  · intro w' hSw
    go_simp <;> with_reducible rfl
  try simp only [List.getElem_toArray, List.getElem_cons_zero, List.getElem_cons_succ, Act.put, List.setIfInBounds_toArray, List.set_cons_zero, List.set_cons_succ]
  refine wpAnyH_done (by kernel_rfl) ?_ _
  go_wp2_with fail
  (with_reducible refine hcut.mono ?_)
  rintro _ w2 ⟨⟨r, rfl⟩, hc⟩
  go_wp2_with fail
  go_ret
  obtain ⟨A', c', h1, h2, h3⟩ := hc
  exact ⟨rfl, A', c', h1, h2, ⟨h3.os, h3.tape, h3.output, h3.size, h3.block⟩⟩
end
section
variable {B : Nat → Prop} {D n : Nat} {room : Int} {L : List FE} {st : DSt} {w : World} (h : DBs B D room L n st w) (s : Nm) (hs : s.length ≤ 1000000)
include h hs
theorem cut_bad {f : DF} {j : Nat} (e : fdD st s = some f) (hj : st.fs[j]? = some f) (m : Int) (hm : ¬ (0 ≤ m ∧ m ≤ f.l.length)) : Calls Tryz.prog 27 #[.pointer (some ⟨D, 0, none⟩), nmV s, .int .i64 m] w fun e w' => e = .returned (.int .i64 2) ∧ Below w.heap.size w w' := by
  have hb1 : Below w.heap.size w (w.alloc (.cells #[.int .i64 m] 3)) := (Below.refl _ _).alloc (Nat.le_refl _) _
  have hX : Bk (w.alloc (.cells #[.int .i64 m] 3)) w.heap.size 3 [.int .i64 m] := Bk.new w 3 [.int .i64 m]
  have h1 := h.dsk.below hb1
  have hl : (Instr.lookup 46 (.map (some st.m)) (nmV s) false).run Tryz.prog (w.alloc (.cells #[.int .i64 m] 3)) = .ok (lookV (fdD st s)) (w.alloc (.cells #[.int .i64 m] 3)) := h1.look s (by unfold maxLen; omega) _ rfl
  rw [e] at hl
  unfold lookV at hl
  have hF := h1.file f (List.mem_of_getElem? hj)
  have hk := known_any D st.m _ (w.alloc (.cells #[.int .i64 m] 3)) h1.dsk
  have hcl := cut1_bad hF m hX hm
  have hw : Calls Tryz.prog 21 #[.pointer (some ⟨D, 0, none⟩), nmV s, .func (.func 55) #[] #[.pointer (some ⟨w.heap.size, 0, none⟩)]] (w.alloc (.cells #[.int .i64 m] 3)) fun e w' => e = .returned (.int .i64 2) ∧ Below (w.alloc (.cells #[.int .i64 m] 3)).heap.size (w.alloc (.cells #[.int .i64 m] 3)) w' := by
    have c0 := h1.dsk.cell 0
    simp only [List.getElem?_cons_zero] at c0
    generalize (w.alloc (.cells #[.int .i64 m] 3)) = w1 at *
    unfold DF.val at hl hcl
    unfold nmV at *
    go_enter Tryz.func21, Tryz.ntmps21
    go_wp2_with fail
    (with_reducible refine hk.mono ?_)
    rintro _ _ ⟨rfl, rfl⟩
    clear hk
    go_wp2_with fail
    (with_reducible refine hcl.mono ?_)
    rintro _ w2 ⟨rfl, hb⟩
    clear hcl hl
    go_wp2_with fail
    go_ret
    exact ⟨rfl, hb⟩
  clear hcl hl hk
  unfold nmV at *
  go_enter Tryz.func27, Tryz.ntmps27
  go_wp2_with fail
  (with_reducible refine hw.mono ?_)
  rintro _ w2 ⟨rfl, hb⟩
  clear hw
  go_wp2_with fail
  go_ret
  exact ⟨rfl, hb1.trans (hb.mono hb1.size)⟩
theorem cut_ok {f : DF} {j : Nat} (e : fdD st s = some f) (hj : st.fs[j]? = some f) (m : Int) (k : Nat) (hm : m = k) (hkl : k ≤ f.l.length) : Calls Tryz.prog 27 #[.pointer (some ⟨D, 0, none⟩), nmV s, .int .i64 m] w fun e w' => e = .returned (.int .i64 0) ∧ DDid B D room (putF L ⟨f.s, f.l.take k, k⟩) n w w' := by
  have HM := Lib.hid hm
  clear hm
  have hb1 : Below w.heap.size w (w.alloc (.cells #[.int .i64 m] 3)) := (Below.refl _ _).alloc (Nat.le_refl _) _
  have hX : Bk (w.alloc (.cells #[.int .i64 m] 3)) w.heap.size 3 [.int .i64 m] := Bk.new w 3 [.int .i64 m]
  have h1 := h.dsk.below hb1
  have hl : (Instr.lookup 46 (.map (some st.m)) (nmV s) false).run Tryz.prog (w.alloc (.cells #[.int .i64 m] 3)) = .ok (lookV (fdD st s)) (w.alloc (.cells #[.int .i64 m] 3)) := h1.look s (by unfold maxLen; omega) _ rfl
  rw [e] at hl
  unfold lookV at hl
  have hF := h1.file f (List.mem_of_getElem? hj)
  have hk := known_any D st.m _ (w.alloc (.cells #[.int .i64 m] 3)) h1.dsk
  have hcl := cut1_ok hF m hX k HM.out hkl
  have hw : Calls Tryz.prog 21 #[.pointer (some ⟨D, 0, none⟩), nmV s, .func (.func 55) #[] #[.pointer (some ⟨w.heap.size, 0, none⟩)]] (w.alloc (.cells #[.int .i64 m] 3)) fun e w' => e = .returned (.int .i64 0) ∧ CutTo f k (w.alloc (.cells #[.int .i64 m] 3)) w' := by
    have c0 := h1.dsk.cell 0
    simp only [List.getElem?_cons_zero] at c0
    generalize (w.alloc (.cells #[.int .i64 m] 3)) = w1 at *
    unfold DF.val at hl hcl
    unfold nmV at *
    go_enter Tryz.func21, Tryz.ntmps21
    go_wp2_with fail
    (with_reducible refine hk.mono ?_)
    rintro _ _ ⟨rfl, rfl⟩
    clear hk
    go_wp2_with fail
    (with_reducible refine hcl.mono ?_)
    rintro _ w2 ⟨rfl, hb⟩
    clear hcl hl
    go_wp2_with fail
    go_ret
    exact ⟨rfl, hb⟩
  have hlt := h.lt
  clear hcl hl hk
  unfold nmV at *
  go_enter Tryz.func27, Tryz.ntmps27
  go_wp2_with fail
  (with_reducible refine hw.mono ?_)
  rintro _ w2 ⟨rfl, hc⟩
  clear hw
  go_wp2_with fail
  go_ret
  obtain ⟨A', c', g1, g2, g3⟩ := hc
  have hs1 := hb1.size
  exact ⟨rfl, h.setF (f' := ⟨f.s, f.g, A', c', f.l.take k, k⟩) hj rfl rfl g1 (fun b q => .inr (Nat.le_trans hs1 (g2 b q))) (fun j j1 j2 _ => (g3.block j (Nat.lt_of_lt_of_le j1 hs1) j2).trans (hb1.block j j1)) (Nat.le_trans hs1 g3.size) ⟨g3.os.trans hb1.os, g3.tape.trans hb1.tape, g3.output.trans hb1.output⟩⟩
theorem cut_out (e : fd L s = none) (m : Int) : Calls Tryz.prog 27 #[.pointer (some ⟨D, 0, none⟩), nmV s, .int .i64 m] w fun e w' => e = .returned (.int .i64 6) ∧ Below w.heap.size w w' := by
  have hb1 : Below w.heap.size w (w.alloc (.cells #[.int .i64 m] 3)) := (Below.refl _ _).alloc (Nat.le_refl _) _
  have h2 : DBs B D room L n st (w.alloc (.cells #[.int .i64 m] 3)) := ⟨h.dsk.below hb1, h.room, h.perm, h.srt, h.own, h.hD, fun j q => Nat.lt_of_lt_of_le (h.lt j q) hb1.size, h.few, h.nn, h.len⟩
  have hw := with_none h2 s hs e (.func (.func 55) #[] #[.pointer (some ⟨w.heap.size, 0, none⟩)])
  unfold nmV at *
  go_enter Tryz.func27, Tryz.ntmps27
  go_wp2_with fail
  (with_reducible refine hw.mono ?_)
  rintro _ _ ⟨rfl, rfl⟩
  clear hw
  go_wp2_with fail
  go_ret
  exact ⟨rfl, hb1⟩
end
end Go.Proofs.YtcmbeolicopicaaGreat

