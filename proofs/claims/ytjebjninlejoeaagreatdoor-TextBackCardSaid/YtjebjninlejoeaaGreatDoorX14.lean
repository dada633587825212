/- text, the walk: an instruction's word. -/
import Derived.Test.YtjebjninlejoeaaGreatDoorX13
namespace Go.Proofs.YtjebjninlejoeaaGreatDoor
open Go.RowKit Go.Maps Go.ChangeMaps
set_option linter.unusedVariables false
set_option linter.unusedSimpArgs false
set_option linter.unusedSectionVars false
set_option maxRecDepth 100000

set_option maxHeartbeats 1000000 in
theorem first_any {B : Nat} (i : IV) (h : (1 ≤ i.op ∧ i.op ≤ 13) ∨ (17 ≤ i.op ∧ i.op ≤ 27)) (w : World) (hv : Tv B w) (hB : B ≤ w.heap.size) : Calls Tryz.prog 104 #[.agg (ivV i).toArray] w fun e w' => e = .returned (.string ⟨(firstS i).toArray⟩) ∧ Below w.heap.size w w' := by
  obtain ⟨op, nr, d, s, u, o, m, z⟩ := i
  show Calls Tryz.prog 104 #[.agg #[.int .u8 op, .bool nr, .int .i64 d, .int .i64 s, .bool u, .int .i64 o, .int .i64 m, .int .i64 z]] w _
  have n1 := (Below.refl w.heap.size w).alloc (Nat.le_refl _) (.cells #[.int .u8 op, .bool nr, .int .i64 d, .int .i64 s, .bool u, .int .i64 o, .int .i64 m, .int .i64 z] 40)
  have hx : Bk (w.alloc (.cells #[.int .u8 op, .bool nr, .int .i64 d, .int .i64 s, .bool u, .int .i64 o, .int .i64 m, .int .i64 z] 40)) w.heap.size 40 [.int .u8 op, .bool nr, .int .i64 d, .int .i64 s, .bool u, .int .i64 o, .int .i64 m, .int .i64 z] := Bk.new w _ _
  by_cases h17 : 17 ≤ op
  · obtain ⟨k, rfl⟩ : ∃ k : Nat, op = 17 + k := ⟨(op - 17).toNat, by omega⟩
    have hk : k < 11 := by rcases h with h | h <;> (simp only at h; omega)
    have d1 : decide ((17 : Int) ≤ 17 + (k : Int)) = true := decide_eq_true (by omega)
    obtain ⟨t, ht⟩ : ∃ t, qus[k]? = some t := ⟨qus[k]'hk, List.getElem?_eq_getElem _⟩
    have hF : firstS ⟨17 + (k : Int), nr, d, s, u, o, m, z⟩ = t ++ (if nr then n32 else []) := by
      unfold firstS baseS
      rw [if_pos (by simp only; omega)]
      rw [show ((17 + (k : Int)) - 17).toNat = k by omega, List.getD_eq_getElem?_getD, ht]
      rfl
    have htl := qus_short t (List.mem_of_getElem? ht)
    rw [hF]
    have q1 : (0 : Int) ≤ (k : Int) := by omega
    have q2 : (k : Int) < 11 := by omega
    have hwr : IntKind.u8.wrap (17 + (k : Int) - 17) = (k : Int) := by simp [IntKind.wrap, IntKind.bits, IntKind.signed]; omega
    have hcat : ((⟨t.toArray⟩ : ByteArray) ++ ⟨#[51, 50]⟩) = ⟨(t ++ n32).toArray⟩ := cat_is t n32
    have q3 : ¬ 9223372036854775807 < t.length + 2 := by omega
    have hv1 := hv.below n1 hB
    have hlow : w.heap.size ≤ _ := n1.size
    go_enter Tryz.func104, Tryz.ntmps104
    go_wp2_with fail
    generalize (w.alloc (.cells _ 40)) = W0 at *
    have hxd := Bk.drew hx
    have c0 := hxd.cell 0
    simp only [List.getElem?_cons_zero] at c0
    have hcon := questions_any W0.drew hv1.drew
    have hq := Bk.drew (Bk.new W0 9 (qus.map nmV))
    have n3 := ((Below.refl W0.heap.size W0).alloc (Nat.le_refl _) (.cells (qus.map nmV).toArray 9)).drew
    have cq := hq.cell k
    rw [List.getElem?_map, ht] at cq
    simp only [Option.map_some, nmV] at cq
    have hx3 := hx.below n3 hx.lt
    have cx0 := hx3.cell 0
    have cx1 := hx3.cell 1
    simp only [List.getElem?_cons_zero, List.getElem?_cons_succ] at cx0 cx1
    have hend := n1.trans (n3.mono hlow)
    refine wp_region_held_drew (S := fun W => W.cell? ⟨w.heap.size, 0, none⟩ = some (.int .u8 _)) (by kernel_rfl) c0 (fun hS => ?_)
    clear hx hv1 n1 hxd hq hx3 n3
    refine wpAnyH_take (i := 1) (v := ?_) rfl (by kernel_rfl) (by kernel_rfl) (by kernel_rfl) (fun _ _ _ h => h) (Or.inl ⟨by rfl, ?_⟩) hS ?_
    rotate_left 1
    · intro w' hSw
      go_simp <;> with_reducible rfl
    try simp only [List.getElem_toArray, List.getElem_cons_zero, List.getElem_cons_succ, Act.put, List.setIfInBounds_toArray, List.set_cons_zero, List.set_cons_succ]
    refine wpAnyH_take (i := 2) (v := ?_) rfl (by kernel_rfl) (by kernel_rfl) (by kernel_rfl) (fun _ _ _ h => h) (Or.inl ⟨by rfl, ?_⟩) hS ?_
    rotate_left 1
    · intro w' hSw
      go_simp <;> with_reducible rfl
    try simp only [List.getElem_toArray, List.getElem_cons_zero, List.getElem_cons_succ, Act.put, List.setIfInBounds_toArray, List.set_cons_zero, List.set_cons_succ]
    refine wpAnyH_take (i := 3) (v := ?_) rfl (by kernel_rfl) (by kernel_rfl) (by kernel_rfl) (fun _ _ _ h => h) (Or.inl ⟨by rfl, ?_⟩) hS ?_
    rotate_left 1
    · intro w' hSw
      go_simp <;> with_reducible rfl
    try simp only [List.getElem_toArray, List.getElem_cons_zero, List.getElem_cons_succ, Act.put, List.setIfInBounds_toArray, List.set_cons_zero, List.set_cons_succ]
    refine wpAnyH_ready (rs := [0]) (by kernel_rfl) (by simp) (AllReadyH.cons rfl (fun K hK => ?_) AllReadyH.nil)
    go_simp
    (with_reducible refine hcon.mono ?_)
    rintro _ w5 ⟨rfl, rfl⟩
    go_simp
    refine hK _ _ cx0 (fun hS => ?_)
    clear hK K
    try simp only [List.getElem_toArray, List.getElem_cons_zero, List.getElem_cons_succ, Act.put, List.setIfInBounds_toArray, List.set_cons_zero, List.set_cons_succ]
    refine wpAnyH_take (i := 4) (v := ?_) rfl (by kernel_rfl) (by kernel_rfl) (by kernel_rfl) (fun _ _ _ h => h) (Or.inl ⟨by rfl, ?_⟩) hS ?_
    rotate_left 1
    · intro w' hSw
      go_simp <;> with_reducible rfl
    try simp only [List.getElem_toArray, List.getElem_cons_zero, List.getElem_cons_succ, Act.put, List.setIfInBounds_toArray, List.set_cons_zero, List.set_cons_succ]
    refine wpAnyH_ready (rs := [5]) (by kernel_rfl) (by simp) (AllReadyH.cons rfl (fun K hK => ?_) AllReadyH.nil)
    go_simp
    refine hK _ _ cx0 (fun hS => ?_)
    clear hK K
    try simp only [List.getElem_toArray, List.getElem_cons_zero, List.getElem_cons_succ, Act.put, List.setIfInBounds_toArray, List.set_cons_zero, List.set_cons_succ]
    refine wpAnyH_take (i := 6) (v := ?_) rfl (by kernel_rfl) (by kernel_rfl) (by kernel_rfl) (fun _ _ _ h => h) (Or.inl ⟨by rfl, ?_⟩) hS ?_
    rotate_left 1
    · intro w' hSw
      go_simp <;> with_reducible rfl
    try simp only [List.getElem_toArray, List.getElem_cons_zero, List.getElem_cons_succ, Act.put, List.setIfInBounds_toArray, List.set_cons_zero, List.set_cons_succ]
    refine wpAnyH_done (by kernel_rfl) ?_ _
    cases nr with
    | true =>
      go_wp2_with fail
      go_ret
      exact ⟨rfl, hend⟩
    | false =>
      go_wp2_with fail
      go_ret
      refine ⟨?_, hend⟩
      simp
  · obtain ⟨k, rfl⟩ : ∃ k : Nat, op = 1 + k := ⟨(op - 1).toNat, by rcases h with h | h <;> (simp only at h; omega)⟩
    have hk : k < 13 := by rcases h with h | h <;> (simp only at h; omega)
    have d1 : decide ((17 : Int) ≤ 1 + (k : Int)) = false := decide_eq_false (by omega)
    obtain ⟨t, ht⟩ : ∃ t, ops[k]? = some t := ⟨ops[k]'hk, List.getElem?_eq_getElem _⟩
    have hF : firstS ⟨1 + (k : Int), nr, d, s, u, o, m, z⟩ = t ++ (if nr then n32 else []) := by
      unfold firstS baseS
      rw [if_neg (by simp only; omega)]
      rw [show ((1 + (k : Int)) - 1).toNat = k by omega, List.getD_eq_getElem?_getD, ht]
      rfl
    have htl := ops_short t (List.mem_of_getElem? ht)
    rw [hF]
    have q1 : (0 : Int) ≤ (k : Int) := by omega
    have q2 : (k : Int) < 13 := by omega
    have hwr : IntKind.u8.wrap (1 + (k : Int) - 1) = (k : Int) := by simp [IntKind.wrap, IntKind.bits, IntKind.signed]; omega
    have hcat : ((⟨t.toArray⟩ : ByteArray) ++ ⟨#[51, 50]⟩) = ⟨(t ++ n32).toArray⟩ := cat_is t n32
    have q3 : ¬ 9223372036854775807 < t.length + 2 := by omega
    have hv1 := hv.below n1 hB
    have hlow : w.heap.size ≤ _ := n1.size
    go_enter Tryz.func104, Tryz.ntmps104
    go_wp2_with fail
    generalize (w.alloc (.cells _ 40)) = W0 at *
    have hxd := Bk.drew hx
    have c0 := hxd.cell 0
    simp only [List.getElem?_cons_zero] at c0
    have hcon := operators_any W0.drew hv1.drew
    have hq := Bk.drew (Bk.new W0 9 (ops.map nmV))
    have n3 := ((Below.refl W0.heap.size W0).alloc (Nat.le_refl _) (.cells (ops.map nmV).toArray 9)).drew
    have cq := hq.cell k
    rw [List.getElem?_map, ht] at cq
    simp only [Option.map_some, nmV] at cq
    have hx3 := hx.below n3 hx.lt
    have cx0 := hx3.cell 0
    have cx1 := hx3.cell 1
    simp only [List.getElem?_cons_zero, List.getElem?_cons_succ] at cx0 cx1
    have hend := n1.trans (n3.mono hlow)
    refine wp_region_held_drew (S := fun W => W.cell? ⟨w.heap.size, 0, none⟩ = some (.int .u8 _)) (by kernel_rfl) c0 (fun hS => ?_)
    clear hx hv1 n1 hxd hq hx3 n3
    refine wpAnyH_take (i := 1) (v := ?_) rfl (by kernel_rfl) (by kernel_rfl) (by kernel_rfl) (fun _ _ _ h => h) (Or.inl ⟨by rfl, ?_⟩) hS ?_
    rotate_left 1
    · intro w' hSw
      go_simp <;> with_reducible rfl
    try simp only [List.getElem_toArray, List.getElem_cons_zero, List.getElem_cons_succ, Act.put, List.setIfInBounds_toArray, List.set_cons_zero, List.set_cons_succ]
    refine wpAnyH_take (i := 2) (v := ?_) rfl (by kernel_rfl) (by kernel_rfl) (by kernel_rfl) (fun _ _ _ h => h) (Or.inl ⟨by rfl, ?_⟩) hS ?_
    rotate_left 1
    · intro w' hSw
      go_simp <;> with_reducible rfl
    try simp only [List.getElem_toArray, List.getElem_cons_zero, List.getElem_cons_succ, Act.put, List.setIfInBounds_toArray, List.set_cons_zero, List.set_cons_succ]
    refine wpAnyH_take (i := 3) (v := ?_) rfl (by kernel_rfl) (by kernel_rfl) (by kernel_rfl) (fun _ _ _ h => h) (Or.inl ⟨by rfl, ?_⟩) hS ?_
    rotate_left 1
    · intro w' hSw
      go_simp <;> with_reducible rfl
    try simp only [List.getElem_toArray, List.getElem_cons_zero, List.getElem_cons_succ, Act.put, List.setIfInBounds_toArray, List.set_cons_zero, List.set_cons_succ]
    refine wpAnyH_ready (rs := [0]) (by kernel_rfl) (by simp) (AllReadyH.cons rfl (fun K hK => ?_) AllReadyH.nil)
    go_simp
    (with_reducible refine hcon.mono ?_)
    rintro _ w5 ⟨rfl, rfl⟩
    go_simp
    refine hK _ _ cx0 (fun hS => ?_)
    clear hK K
    try simp only [List.getElem_toArray, List.getElem_cons_zero, List.getElem_cons_succ, Act.put, List.setIfInBounds_toArray, List.set_cons_zero, List.set_cons_succ]
    refine wpAnyH_take (i := 4) (v := ?_) rfl (by kernel_rfl) (by kernel_rfl) (by kernel_rfl) (fun _ _ _ h => h) (Or.inl ⟨by rfl, ?_⟩) hS ?_
    rotate_left 1
    · intro w' hSw
      go_simp <;> with_reducible rfl
    try simp only [List.getElem_toArray, List.getElem_cons_zero, List.getElem_cons_succ, Act.put, List.setIfInBounds_toArray, List.set_cons_zero, List.set_cons_succ]
    refine wpAnyH_ready (rs := [5]) (by kernel_rfl) (by simp) (AllReadyH.cons rfl (fun K hK => ?_) AllReadyH.nil)
    go_simp
    refine hK _ _ cx0 (fun hS => ?_)
    clear hK K
    try simp only [List.getElem_toArray, List.getElem_cons_zero, List.getElem_cons_succ, Act.put, List.setIfInBounds_toArray, List.set_cons_zero, List.set_cons_succ]
    refine wpAnyH_take (i := 6) (v := ?_) rfl (by kernel_rfl) (by kernel_rfl) (by kernel_rfl) (fun _ _ _ h => h) (Or.inl ⟨by rfl, ?_⟩) hS ?_
    rotate_left 1
    · intro w' hSw
      go_simp <;> with_reducible rfl
    try simp only [List.getElem_toArray, List.getElem_cons_zero, List.getElem_cons_succ, Act.put, List.setIfInBounds_toArray, List.set_cons_zero, List.set_cons_succ]
    refine wpAnyH_done (by kernel_rfl) ?_ _
    cases nr with
    | true =>
      go_wp2_with fail
      go_ret
      exact ⟨rfl, hend⟩
    | false =>
      go_wp2_with fail
      go_ret
      refine ⟨?_, hend⟩
      simp
end Go.Proofs.YtjebjninlejoeaaGreatDoor

