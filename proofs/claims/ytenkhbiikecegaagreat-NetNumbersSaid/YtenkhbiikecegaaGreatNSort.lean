/- net: the links sorted. -/
import Derived.Test.YtenkhbiikecegaaGreatNCmp
import Derived.Test.YtenkhbiikecegaaGreatSort
namespace Go.Proofs.YtenkhbiikecegaaGreat
open Go.RowKit Go.Maps Go.ChangeMaps Go.Shelf Go.Lib Go.Sort
set_option linter.unusedVariables false
set_option linter.unusedSimpArgs false
set_option maxRecDepth 100000

/-- A link's two cells. -/
def encK (x : Int × Int) : List Value := [.int .i64 x.1, .int .i64 x.2]
theorem closure_any (x y : Int × Int) (W : World) : Calls Tryz.prog 31 #[.agg #[.int .i64 x.1, .int .i64 x.2], .agg #[.int .i64 y.1, .int .i64 y.2]] W fun e w' => e = .returned (.int .i64 (cmpL x y)) ∧ ∃ q os', w' = grow (W.drewN q) os' := by
  obtain ⟨z1, hz1⟩ : ∃ z, z = cmpI x.1 y.1 := ⟨_, rfl⟩
  obtain ⟨z2, hz2⟩ : ∃ z, z = cmpI x.2 y.2 := ⟨_, rfl⟩
  have hc1 := fun W => cmp_any x.1 y.1 W
  have hc2 := fun W => cmp_any x.2 y.2 W
  rw [← hz1] at hc1
  rw [← hz2] at hc2
  have hcl : orI z1 z2 = cmpL x y := by rw [hz1, hz2]; rfl
  have HC := Lib.hid hcl
  clear hz1 hz2 hcl
  go_enter Tryz.func31, Tryz.ntmps31
  go_wp2_with fail
  have hb1 : Bk ((W.alloc (.cells #[.int .i64 x.1, .int .i64 x.2] 38)).alloc (.cells #[.int .i64 y.1, .int .i64 y.2] 38)) W.heap.size 38 [.int .i64 x.1, .int .i64 x.2] := (heap_alloc_old _ _ (by simp)).trans (heap_alloc_new W _)
  have hb2 : Bk ((W.alloc (.cells #[.int .i64 x.1, .int .i64 x.2] 38)).alloc (.cells #[.int .i64 y.1, .int .i64 y.2] 38)) (W.heap.size + 1) 38 [.int .i64 y.1, .int .i64 y.2] := by
    have := Bk.new (W.alloc (.cells #[.int .i64 x.1, .int .i64 x.2] 38)) 38 [.int .i64 y.1, .int .i64 y.2]
    rwa [World.size_alloc] at this
  have hgr : ∃ os', ((W.alloc (.cells #[.int .i64 x.1, .int .i64 x.2] 38)).alloc (.cells #[.int .i64 y.1, .int .i64 y.2] 38)) = grow W os' := ⟨_, by rw [alloc_eq_grow, alloc_eq_grow, grow_grow]⟩
  generalize ((W.alloc (.cells #[.int .i64 x.1, .int .i64 x.2] 38)).alloc (.cells #[.int .i64 y.1, .int .i64 y.2] 38)) = W2 at *
  have hl1 : W.heap.size < W2.drew.heap.size := hb1.lt
  have hl2 : W.heap.size + 1 < W2.drew.heap.size := hb2.lt
  have HG := Lib.hid hgr
  clear hgr
  have hS0 : W2.drew.cell? ⟨W.heap.size, 0, none⟩ = some (.int .i64 x.1) ∧ W2.drew.cell? ⟨W.heap.size, 1, none⟩ = some (.int .i64 x.2) ∧ W2.drew.cell? ⟨W.heap.size + 1, 0, none⟩ = some (.int .i64 y.1) ∧ W2.drew.cell? ⟨W.heap.size + 1, 1, none⟩ = some (.int .i64 y.2) := by
    have p1 := hb1.drew.cell 0
    have p2 := hb1.drew.cell 1
    have p3 := hb2.drew.cell 0
    have p4 := hb2.drew.cell 1
    exact ⟨by simpa using p1, by simpa using p2, by simpa using p3, by simpa using p4⟩
  refine wp_region_held_drew (S := (fun w' => w'.cell? ⟨W.heap.size, 0, none⟩ = some (.int .i64 x.1) ∧ w'.cell? ⟨W.heap.size, 1, none⟩ = some (.int .i64 x.2) ∧ w'.cell? ⟨W.heap.size + 1, 0, none⟩ = some (.int .i64 y.1) ∧ w'.cell? ⟨W.heap.size + 1, 1, none⟩ = some (.int .i64 y.2))) (by kernel_rfl) hS0 (fun hS => ?_)
  refine wpAnyH_take (i := 0) (v := ?_) rfl (by kernel_rfl) (by kernel_rfl) (by kernel_rfl) (fun _ _ _ h => h) (Or.inl ⟨by rfl, ?_⟩) hS ?_
  rotate_left 1
  · intro w' hSw
    go_simp <;> with_reducible rfl
  try simp only [List.getElem_toArray, List.getElem_cons_zero, List.getElem_cons_succ, Act.put, List.setIfInBounds_toArray, List.set_cons_zero, List.set_cons_succ]
  refine wpAnyH_take (i := 1) (v := ?_) rfl (by kernel_rfl) (by kernel_rfl) (by kernel_rfl) (fun _ _ _ h => h) (Or.inl ⟨by rfl, ?_⟩) hS ?_
  rotate_left 1
  · intro w' hSw
    go_simp <;> with_reducible rfl
  try simp only [List.getElem_toArray, List.getElem_cons_zero, List.getElem_cons_succ, Act.put, List.setIfInBounds_toArray, List.set_cons_zero, List.set_cons_succ]
  refine wpAnyH_take (i := 2) (v := ?_) rfl (by kernel_rfl) (by kernel_rfl) (by kernel_rfl) (fun _ _ _ h => h) (Or.inl ⟨by rfl, ?_⟩) hS ?_
  rotate_left 1
  · intro w' hSw
    go_simp <;> with_reducible rfl
  try simp only [List.getElem_toArray, List.getElem_cons_zero, List.getElem_cons_succ, Act.put, List.setIfInBounds_toArray, List.set_cons_zero, List.set_cons_succ]
  refine wpAnyH_take (i := 3) (v := ?_) rfl (by kernel_rfl) (by kernel_rfl) (by kernel_rfl) (fun _ _ _ h => h) (Or.inl ⟨by rfl, ?_⟩) hS ?_
  rotate_left 1
  · intro w' hSw
    go_simp <;> with_reducible rfl
  try simp only [List.getElem_toArray, List.getElem_cons_zero, List.getElem_cons_succ, Act.put, List.setIfInBounds_toArray, List.set_cons_zero, List.set_cons_succ]
  refine wpAnyH_take (i := 5) (v := ?_) rfl (by kernel_rfl) (by kernel_rfl) (by kernel_rfl) (fun _ _ _ h => h) (Or.inl ⟨by rfl, ?_⟩) hS ?_
  rotate_left 1
  · intro w' hSw
    go_simp <;> with_reducible rfl
  try simp only [List.getElem_toArray, List.getElem_cons_zero, List.getElem_cons_succ, Act.put, List.setIfInBounds_toArray, List.set_cons_zero, List.set_cons_succ]
  refine wpAnyH_take (i := 6) (v := ?_) rfl (by kernel_rfl) (by kernel_rfl) (by kernel_rfl) (fun _ _ _ h => h) (Or.inl ⟨by rfl, ?_⟩) hS ?_
  rotate_left 1
  · intro w' hSw
    go_simp <;> with_reducible rfl
  try simp only [List.getElem_toArray, List.getElem_cons_zero, List.getElem_cons_succ, Act.put, List.setIfInBounds_toArray, List.set_cons_zero, List.set_cons_succ]
  refine wpAnyH_take (i := 7) (v := ?_) rfl (by kernel_rfl) (by kernel_rfl) (by kernel_rfl) (fun _ _ _ h => h) (Or.inl ⟨by rfl, ?_⟩) hS ?_
  rotate_left 1
  · intro w' hSw
    go_simp <;> with_reducible rfl
  try simp only [List.getElem_toArray, List.getElem_cons_zero, List.getElem_cons_succ, Act.put, List.setIfInBounds_toArray, List.set_cons_zero, List.set_cons_succ]
  refine wpAnyH_take (i := 8) (v := ?_) rfl (by kernel_rfl) (by kernel_rfl) (by kernel_rfl) (fun _ _ _ h => h) (Or.inl ⟨by rfl, ?_⟩) hS ?_
  rotate_left 1
  · intro w' hSw
    go_simp <;> with_reducible rfl
  try simp only [List.getElem_toArray, List.getElem_cons_zero, List.getElem_cons_succ, Act.put, List.setIfInBounds_toArray, List.set_cons_zero, List.set_cons_succ]
  refine wpAnyH_ready (rs := [4]) (by kernel_rfl) (by simp) (AllReadyH.cons rfl (fun K hK => ?_) AllReadyH.nil)
  go_simp
  refine (hc1 _).mono ?_
  rintro _ w_ ⟨rfl, rfl⟩
  go_simp
  refine hK _ _ hS (fun hS => ?_)
  clear hK K
  try simp only [List.getElem_toArray, List.getElem_cons_zero, List.getElem_cons_succ, Act.put, List.setIfInBounds_toArray, List.set_cons_zero, List.set_cons_succ]
  refine wpAnyH_ready (rs := [9]) (by kernel_rfl) (by simp) (AllReadyH.cons rfl (fun K hK => ?_) AllReadyH.nil)
  go_simp
  refine (hc2 _).mono ?_
  rintro _ w_ ⟨rfl, rfl⟩
  go_simp
  refine hK _ _ hS (fun hS => ?_)
  clear hK K
  try simp only [List.getElem_toArray, List.getElem_cons_zero, List.getElem_cons_succ, Act.put, List.setIfInBounds_toArray, List.set_cons_zero, List.set_cons_succ]
  refine wpAnyH_ready (rs := [10]) (by kernel_rfl) (by simp) (AllReadyH.cons rfl (fun K hK => ?_) AllReadyH.nil)
  go_simp
  have nb := Bk.new W2.drew 3 [.int .i64 z1, .int .i64 z2]
  refine hK _ _ ⟨(World.cell?_of_block (heap_alloc_old _ _ hl1)).trans hS.1, (World.cell?_of_block (heap_alloc_old _ _ hl1)).trans hS.2.1, (World.cell?_of_block (heap_alloc_old _ _ hl2)).trans hS.2.2.1, (World.cell?_of_block (heap_alloc_old _ _ hl2)).trans hS.2.2.2⟩ (fun hS => ?_)
  clear hK K
  try simp only [List.getElem_toArray, List.getElem_cons_zero, List.getElem_cons_succ, Act.put, List.setIfInBounds_toArray, List.set_cons_zero, List.set_cons_succ]
  refine wpAnyH_ready (rs := [11]) (by kernel_rfl) (by simp) (AllReadyH.cons rfl (fun K hK => ?_) AllReadyH.nil)
  go_simp
  refine (or_any _ _ _ _ nb).mono ?_
  rintro _ w_ ⟨rfl, rfl⟩
  go_simp
  refine hK _ _ hS (fun hS => ?_)
  clear hK K
  try simp only [List.getElem_toArray, List.getElem_cons_zero, List.getElem_cons_succ, Act.put, List.setIfInBounds_toArray, List.set_cons_zero, List.set_cons_succ]
  refine wpAnyH_take (i := 12) (v := ?_) rfl (by kernel_rfl) (by kernel_rfl) (by kernel_rfl) (fun _ _ _ h => h) (Or.inl ⟨by rfl, ?_⟩) hS ?_
  rotate_left 1
  · intro w' hSw
    go_simp <;> with_reducible rfl
  try simp only [List.getElem_toArray, List.getElem_cons_zero, List.getElem_cons_succ, Act.put, List.setIfInBounds_toArray, List.set_cons_zero, List.set_cons_succ]
  refine wpAnyH_done (by kernel_rfl) ?_ _
  go_wp2_with fail
  go_ret
  obtain ⟨os', e⟩ := HG.out
  refine ⟨by rw [← HC.out]; rfl, 1, os' ++ #[.cells #[.int .i64 z1, .int .i64 z2] 3], ?_⟩
  rw [e, alloc_eq_grow, ← grow_grow]
  rfl
theorem cmp_lays (blk off size : Nat) (w : World) : CmpLays Tryz.prog 31 #[] encK 2 cmpL blk off size w :=
  fun _ _ _ _ x y => closure_any x y _
/-- Ahead of another link. -/
def ltL (x y : Int × Int) : Bool := decide (x.1 < y.1 ∨ x.1 = y.1 ∧ x.2 < y.2)
theorem lt_cmp : ltOf cmpL = ltL := by
  funext x y
  unfold ltOf ltL cmpL orI cmpI
  congr 1
  refine propext ?_
  by_cases h1 : x.1 < y.1
  · simp [h1]
  · by_cases h2 : y.1 < x.1
    · simp [h1, h2]; omega
    · have : x.1 = y.1 := by omega
      by_cases h3 : x.2 < y.2
      · simp [h1, h2, h3, this]
      · by_cases h4 : y.2 < x.2 <;> simp [h1, h2, h3, h4, this]
theorem swoL : SWO (ltOf cmpL) := by
  rw [lt_cmp]
  refine ⟨fun x => ?_, fun x y z h1 h2 => ?_, fun x y z h1 h2 => ?_⟩
  · simp [ltL]
  · simp only [ltL, decide_eq_true_eq] at *; omega
  · simp only [ltL, decide_eq_false_iff_not] at *; omega
/-- slices.SortFunc, of links. -/
theorem sort_any (blk cap : Nat) (d : Array (Int × Int)) (w : World) (hH : HoldsK encK 2 w blk 0 d) (hblk : blk < w.heap.size) (hsz : d.size < 4611686018427387904) :
    Calls Tryz.prog 30 #[.slice (some ⟨blk, 0, none⟩) d.size cap, .func (.func 31) #[] #[]] w fun e w' => e = .returned (.tuple #[]) ∧ ∃ d' n os, PermIn 0 d.size d d' ∧ SortedIn ltL 0 d.size d' ∧ w' = sortWorldK encK 2 w blk 0 n d' os := by
  have eg : ∀ args w, (callFunc 31 args).run Tryz.prog w = .ok (.enter 31 args) w := enters_of Tryz.func31 (by kernel_rfl) rfl
  have hcon := AnyQ.slices_SortFunc Tryz.sortLk 2 (fun w => by kernel_rfl) (fun w => by kernel_rfl) encK (fun _ => rfl) (fun x v hv => by simp [encK] at hv; rcases hv with rfl | rfl <;> rfl) cmpL swoL 31 #[] blk 0 cap d w eg (cmp_lays blk 0 d.size w) hH hblk hsz
  rw [lt_cmp] at hcon
  exact hcon
theorem sort_none (p : Option Addr) (cap : Nat) (fv : Value) (w : World) :
    Calls Tryz.prog 30 #[.slice p 0 cap, fv] w fun e w' => e = .returned (.tuple #[]) ∧ w' = w :=
  AnyF.slices_SortFunc_none Tryz.sortLk p cap fv w
end Go.Proofs.YtenkhbiikecegaaGreat
