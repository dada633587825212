/- text, the walk: an instruction's line, its parts. text, the walk: an instruction's word. text, the walk: a cell's text. text, the walk: an instruction's line. text, the walk: an instruction's line. text, the walk: an instruction's line. text, the walk: a right instruction's line. -/
import Derived.Test.YtjebjninlejoeaaGreatDoorZE
namespace Go.Proofs.YtjebjninlejoeaaGreatDoor
open Go.RowKit Go.Maps Go.ChangeMaps
set_option linter.unusedVariables false
set_option linter.unusedSimpArgs false
set_option linter.unusedSectionVars false
set_option maxRecDepth 100000

def strV (s : Nm) : Value := .string ⟨s.toArray⟩
theorem name_any {B : Nat} (n : Int) (hn : I64 n) (w : World) (hv : Tv B w) : Calls Tryz.prog 101 #[.int .i64 n] w fun e w' => e = .returned (.string ⟨(regN n).toArray⟩) ∧ Below w.heap.size w w' := by
  have hcon := itoa_any n hn.1 hn.2 w hv
  have hl := Lib.itoa_length_le n hn.1 hn.2
  have q1 : ¬ 9223372036854775807 < 1 + (Lib.itoa n).length := by omega
  have hc : ((⟨#[114]⟩ : ByteArray) ++ ⟨(Lib.itoa n).toArray⟩) = ⟨(regN n).toArray⟩ := cat_is [114] (Lib.itoa n)
  go_enter Tryz.func101, Tryz.ntmps101
  go_wp2_with fail
  (with_reducible refine hcon.mono ?_)
  rintro _ w1 ⟨rfl, b1⟩
  go_wp2_with fail
  go_ret
  exact ⟨rfl, b1⟩
theorem apart_any {B : Nat} (n : Int) (hn : -9223372036854775807 ≤ n ∧ n ≤ 9223372036854775807) (b : Nm) (hb : b.length ≤ 100) (w : World) (hv : Tv B w) : Calls Tryz.prog 100 #[.int .i64 n, .string ⟨b.toArray⟩] w fun e w' => e = .returned (.string ⟨(apartS n b).toArray⟩) ∧ Below w.heap.size w w' := by
  unfold apartS
  by_cases h0 : n < 0
  · have d1 : decide (n < 0) = true := decide_eq_true h0
    have hcon := itoa_any (-n) (by omega) (by omega) w hv
    have hl := Lib.itoa_length_le (-n) (by omega) (by omega)
    have q1 : ¬ 9223372036854775807 < 1 + b.length := by omega
    have q2 : ¬ 9223372036854775807 < (45 :: b).length + (Lib.itoa (-n)).length := by simp; omega
    have q3 : ¬ 9223372036854775807 < b.length + 1 + (Lib.itoa (-n)).length := by omega
    have hc : ((⟨#[45]⟩ : ByteArray) ++ ⟨b.toArray⟩) = ⟨(45 :: b).toArray⟩ := cat_is [45] b
    have hc2 : ((⟨(45 :: b).toArray⟩ : ByteArray) ++ ⟨(Lib.itoa (-n)).toArray⟩) = ⟨(45 :: (b ++ Lib.itoa (-n))).toArray⟩ := cat_is (45 :: b) _
    rw [if_pos h0]
    go_enter Tryz.func100, Tryz.ntmps100
    go_wp2_with fail
    (with_reducible refine hcon.mono ?_)
    rintro _ w1 ⟨rfl, b1⟩
    go_wp2_with fail
    go_ret
    exact ⟨rfl, b1⟩
  · have d1 : decide (n < 0) = false := decide_eq_false h0
    have hcon := itoa_any n (by omega) (by omega) w hv
    have hl := Lib.itoa_length_le n (by omega) (by omega)
    have q1 : ¬ 9223372036854775807 < 1 + b.length := by omega
    have q2 : ¬ 9223372036854775807 < (43 :: b).length + (Lib.itoa n).length := by simp; omega
    have q3 : ¬ 9223372036854775807 < b.length + 1 + (Lib.itoa n).length := by omega
    have hc : ((⟨#[43]⟩ : ByteArray) ++ ⟨b.toArray⟩) = ⟨(43 :: b).toArray⟩ := cat_is [43] b
    have hc2 : ((⟨(43 :: b).toArray⟩ : ByteArray) ++ ⟨(Lib.itoa n).toArray⟩) = ⟨(43 :: (b ++ Lib.itoa n)).toArray⟩ := cat_is (43 :: b) _
    rw [if_neg h0]
    go_enter Tryz.func100, Tryz.ntmps100
    go_wp2_with fail
    (with_reducible refine hcon.mono ?_)
    rintro _ w1 ⟨rfl, b1⟩
    go_wp2_with fail
    go_ret
    exact ⟨rfl, b1⟩
theorem last_any {B : Nat} (i : IV) (h1 : I64 i.imm) (h2 : I64 i.src) (w : World) (hv : Tv B w) (hB : B ≤ w.heap.size) : Calls Tryz.prog 103 #[.agg (ivV i).toArray] w fun e w' => e = .returned (.string ⟨(lastS i).toArray⟩) ∧ Below w.heap.size w w' := by
  obtain ⟨op, nr, d, s, u, o, m, z⟩ := i
  show Calls Tryz.prog 103 #[.agg #[.int .u8 op, .bool nr, .int .i64 d, .int .i64 s, .bool u, .int .i64 o, .int .i64 m, .int .i64 z]] w _
  have n1 := (Below.refl w.heap.size w).alloc (Nat.le_refl _) (.cells #[.int .u8 op, .bool nr, .int .i64 d, .int .i64 s, .bool u, .int .i64 o, .int .i64 m, .int .i64 z] 40)
  have hv1 := hv.below n1 hB
  have n2 : w.heap.size ≤ (w.alloc (.cells #[.int .u8 op, .bool nr, .int .i64 d, .int .i64 s, .bool u, .int .i64 o, .int .i64 m, .int .i64 z] 40)).heap.size := by rw [World.size_alloc]; omega
  cases u
  · have hcon := name_any s h2 _ hv1
    go_enter Tryz.func103, Tryz.ntmps103
    go_wp2_with fail
    (with_reducible refine hcon.mono ?_)
    rintro _ w1 ⟨rfl, b1⟩
    go_wp2_with fail
    go_ret
    exact ⟨rfl, n1.trans (b1.mono n2)⟩
  · have hcon := itoa_any m h1.1 h1.2 _ hv1
    go_enter Tryz.func103, Tryz.ntmps103
    go_wp2_with fail
    (with_reducible refine hcon.mono ?_)
    rintro _ w1 ⟨rfl, b1⟩
    go_wp2_with fail
    go_ret
    exact ⟨rfl, n1.trans (b1.mono n2)⟩
end Go.Proofs.YtjebjninlejoeaaGreatDoor
namespace Go.Proofs.YtjebjninlejoeaaGreatDoor
open Go.RowKit Go.Maps Go.ChangeMaps
set_option linter.unusedVariables false
set_option linter.unusedSimpArgs false
set_option linter.unusedSectionVars false
set_option maxRecDepth 100000

set_option maxHeartbeats 1000000 in
theorem first_any {B : Nat} (i : IV) (h : (1 ≤ i.op ∧ i.op ≤ 13) ∨ (17 ≤ i.op ∧ i.op ≤ 27)) (w : World) (hv : Tv B w) (hB : B ≤ w.heap.size) : Calls Tryz.prog 104 #[.agg (ivV i).toArray] w fun e w' => e = .returned (.string ⟨(firstS i).toArray⟩) ∧ Below w.heap.size w w' := by
  obtain ⟨op, nr, d, s, u, o, m, z⟩ := i
  show Calls Tryz.prog 104 #[.agg #[.int .u8 op, .bool nr, .int .i64 d, .int .i64 s, .bool u, .int .i64 o, .int .i64 m, .int .i64 z]] w _
  have n1 := (Below.refl w.heap.size w).alloc (Nat.le_refl _) (.cells #[.int .u8 op, .bool nr, .int .i64 d, .int .i64 s, .bool u, .int .i64 o, .int .i64 m, .int .i64 z] 40)
  have hx : Bk (w.alloc (.cells #[.int .u8 op, .bool nr, .int .i64 d, .int .i64 s, .bool u, .int .i64 o, .int .i64 m, .int .i64 z] 40)) w.heap.size 40 [.int .u8 op, .bool nr, .int .i64 d, .int .i64 s, .bool u, .int .i64 o, .int .i64 m, .int .i64 z] := Bk.new w _ _
  by_cases h17 : 17 ≤ op
  · obtain ⟨k, rfl⟩ : ∃ k : Nat, op = 17 + k := ⟨(op - 17).toNat, by omega⟩
    have hk : k < 11 := by rcases h with h | h <;> (simp only at h; omega)
    have d1 : decide ((17 : Int) ≤ 17 + (k : Int)) = true := decide_eq_true (by omega)
    obtain ⟨t, ht⟩ : ∃ t, qus[k]? = some t := ⟨qus[k]'hk, List.getElem?_eq_getElem _⟩
    have hF : firstS ⟨17 + (k : Int), nr, d, s, u, o, m, z⟩ = t ++ (if nr then n32 else []) := by
      unfold firstS baseS
      rw [if_pos (by simp only; omega)]
      rw [show ((17 + (k : Int)) - 17).toNat = k by omega, List.getD_eq_getElem?_getD, ht]
      rfl
    have htl := qus_short t (List.mem_of_getElem? ht)
    rw [hF]
    have q1 : (0 : Int) ≤ (k : Int) := by omega
    have q2 : (k : Int) < 11 := by omega
    have hwr : IntKind.u8.wrap (17 + (k : Int) - 17) = (k : Int) := by simp [IntKind.wrap, IntKind.bits, IntKind.signed]; omega
    have hcat : ((⟨t.toArray⟩ : ByteArray) ++ ⟨#[51, 50]⟩) = ⟨(t ++ n32).toArray⟩ := cat_is t n32
    have q3 : ¬ 9223372036854775807 < t.length + 2 := by omega
    have hv1 := hv.below n1 hB
    have hlow : w.heap.size ≤ _ := n1.size
    go_enter Tryz.func104, Tryz.ntmps104
    go_wp2_with fail
    generalize (w.alloc (.cells _ 40)) = W0 at *
    have hxd := Bk.drew hx
    have c0 := hxd.cell 0
    simp only [List.getElem?_cons_zero] at c0
    have hcon := questions_any W0.drew hv1.drew
    have hq := Bk.drew (Bk.new W0 9 (qus.map nmV))
    have n3 := ((Below.refl W0.heap.size W0).alloc (Nat.le_refl _) (.cells (qus.map nmV).toArray 9)).drew
    have cq := hq.cell k
    rw [List.getElem?_map, ht] at cq
    simp only [Option.map_some, nmV] at cq
    have hx3 := hx.below n3 hx.lt
    have cx0 := hx3.cell 0
    have cx1 := hx3.cell 1
    simp only [List.getElem?_cons_zero, List.getElem?_cons_succ] at cx0 cx1
    have hend := n1.trans (n3.mono hlow)
    refine wp_region_held_drew (S := fun W => W.cell? ⟨w.heap.size, 0, none⟩ = some (.int .u8 _)) (by kernel_rfl) c0 (fun hS => ?_)
    clear hx hv1 n1 hxd hq hx3 n3
    refine wpAnyH_take (i := 1) (v := ?_) rfl (by kernel_rfl) (by kernel_rfl) (by kernel_rfl) (fun _ _ _ h => h) (Or.inl ⟨by rfl, ?_⟩) hS ?_
    rotate_left 1
    · intro w' hSw
      go_simp <;> with_reducible rfl
    try simp only [List.getElem_toArray, List.getElem_cons_zero, List.getElem_cons_succ, Act.put, List.setIfInBounds_toArray, List.set_cons_zero, List.set_cons_succ]
    refine wpAnyH_take (i := 2) (v := ?_) rfl (by kernel_rfl) (by kernel_rfl) (by kernel_rfl) (fun _ _ _ h => h) (Or.inl ⟨by rfl, ?_⟩) hS ?_
    rotate_left 1
    · intro w' hSw
      go_simp <;> with_reducible rfl
    try simp only [List.getElem_toArray, List.getElem_cons_zero, List.getElem_cons_succ, Act.put, List.setIfInBounds_toArray, List.set_cons_zero, List.set_cons_succ]
    refine wpAnyH_take (i := 3) (v := ?_) rfl (by kernel_rfl) (by kernel_rfl) (by kernel_rfl) (fun _ _ _ h => h) (Or.inl ⟨by rfl, ?_⟩) hS ?_
    rotate_left 1
    · intro w' hSw
      go_simp <;> with_reducible rfl
    try simp only [List.getElem_toArray, List.getElem_cons_zero, List.getElem_cons_succ, Act.put, List.setIfInBounds_toArray, List.set_cons_zero, List.set_cons_succ]
    refine wpAnyH_ready (rs := [0]) (by kernel_rfl) (by simp) (AllReadyH.cons rfl (fun K hK => ?_) AllReadyH.nil)
    go_simp
    (with_reducible refine hcon.mono ?_)
    rintro _ w5 ⟨rfl, rfl⟩
    go_simp
    refine hK _ _ cx0 (fun hS => ?_)
    clear hK K
    try simp only [List.getElem_toArray, List.getElem_cons_zero, List.getElem_cons_succ, Act.put, List.setIfInBounds_toArray, List.set_cons_zero, List.set_cons_succ]
    refine wpAnyH_take (i := 4) (v := ?_) rfl (by kernel_rfl) (by kernel_rfl) (by kernel_rfl) (fun _ _ _ h => h) (Or.inl ⟨by rfl, ?_⟩) hS ?_
    rotate_left 1
    · intro w' hSw
      go_simp <;> with_reducible rfl
    try simp only [List.getElem_toArray, List.getElem_cons_zero, List.getElem_cons_succ, Act.put, List.setIfInBounds_toArray, List.set_cons_zero, List.set_cons_succ]
    refine wpAnyH_ready (rs := [5]) (by kernel_rfl) (by simp) (AllReadyH.cons rfl (fun K hK => ?_) AllReadyH.nil)
    go_simp
    refine hK _ _ cx0 (fun hS => ?_)
    clear hK K
    try simp only [List.getElem_toArray, List.getElem_cons_zero, List.getElem_cons_succ, Act.put, List.setIfInBounds_toArray, List.set_cons_zero, List.set_cons_succ]
    refine wpAnyH_take (i := 6) (v := ?_) rfl (by kernel_rfl) (by kernel_rfl) (by kernel_rfl) (fun _ _ _ h => h) (Or.inl ⟨by rfl, ?_⟩) hS ?_
    rotate_left 1
    · intro w' hSw
      go_simp <;> with_reducible rfl
    try simp only [List.getElem_toArray, List.getElem_cons_zero, List.getElem_cons_succ, Act.put, List.setIfInBounds_toArray, List.set_cons_zero, List.set_cons_succ]
    refine wpAnyH_done (by kernel_rfl) ?_ _
    cases nr with
    | true =>
      go_wp2_with fail
      go_ret
      exact ⟨rfl, hend⟩
    | false =>
      go_wp2_with fail
      go_ret
      refine ⟨?_, hend⟩
      simp
  · obtain ⟨k, rfl⟩ : ∃ k : Nat, op = 1 + k := ⟨(op - 1).toNat, by rcases h with h | h <;> (simp only at h; omega)⟩
    have hk : k < 13 := by rcases h with h | h <;> (simp only at h; omega)
    have d1 : decide ((17 : Int) ≤ 1 + (k : Int)) = false := decide_eq_false (by omega)
    obtain ⟨t, ht⟩ : ∃ t, ops[k]? = some t := ⟨ops[k]'hk, List.getElem?_eq_getElem _⟩
    have hF : firstS ⟨1 + (k : Int), nr, d, s, u, o, m, z⟩ = t ++ (if nr then n32 else []) := by
      unfold firstS baseS
      rw [if_neg (by simp only; omega)]
      rw [show ((1 + (k : Int)) - 1).toNat = k by omega, List.getD_eq_getElem?_getD, ht]
      rfl
    have htl := ops_short t (List.mem_of_getElem? ht)
    rw [hF]
    have q1 : (0 : Int) ≤ (k : Int) := by omega
    have q2 : (k : Int) < 13 := by omega
    have hwr : IntKind.u8.wrap (1 + (k : Int) - 1) = (k : Int) := by simp [IntKind.wrap, IntKind.bits, IntKind.signed]; omega
    have hcat : ((⟨t.toArray⟩ : ByteArray) ++ ⟨#[51, 50]⟩) = ⟨(t ++ n32).toArray⟩ := cat_is t n32
    have q3 : ¬ 9223372036854775807 < t.length + 2 := by omega
    have hv1 := hv.below n1 hB
    have hlow : w.heap.size ≤ _ := n1.size
    go_enter Tryz.func104, Tryz.ntmps104
    go_wp2_with fail
    generalize (w.alloc (.cells _ 40)) = W0 at *
    have hxd := Bk.drew hx
    have c0 := hxd.cell 0
    simp only [List.getElem?_cons_zero] at c0
    have hcon := operators_any W0.drew hv1.drew
    have hq := Bk.drew (Bk.new W0 9 (ops.map nmV))
    have n3 := ((Below.refl W0.heap.size W0).alloc (Nat.le_refl _) (.cells (ops.map nmV).toArray 9)).drew
    have cq := hq.cell k
    rw [List.getElem?_map, ht] at cq
    simp only [Option.map_some, nmV] at cq
    have hx3 := hx.below n3 hx.lt
    have cx0 := hx3.cell 0
    have cx1 := hx3.cell 1
    simp only [List.getElem?_cons_zero, List.getElem?_cons_succ] at cx0 cx1
    have hend := n1.trans (n3.mono hlow)
    refine wp_region_held_drew (S := fun W => W.cell? ⟨w.heap.size, 0, none⟩ = some (.int .u8 _)) (by kernel_rfl) c0 (fun hS => ?_)
    clear hx hv1 n1 hxd hq hx3 n3
    refine wpAnyH_take (i := 1) (v := ?_) rfl (by kernel_rfl) (by kernel_rfl) (by kernel_rfl) (fun _ _ _ h => h) (Or.inl ⟨by rfl, ?_⟩) hS ?_
    rotate_left 1
    · intro w' hSw
      go_simp <;> with_reducible rfl
    try simp only [List.getElem_toArray, List.getElem_cons_zero, List.getElem_cons_succ, Act.put, List.setIfInBounds_toArray, List.set_cons_zero, List.set_cons_succ]
    refine wpAnyH_take (i := 2) (v := ?_) rfl (by kernel_rfl) (by kernel_rfl) (by kernel_rfl) (fun _ _ _ h => h) (Or.inl ⟨by rfl, ?_⟩) hS ?_
    rotate_left 1
    · intro w' hSw
      go_simp <;> with_reducible rfl
    try simp only [List.getElem_toArray, List.getElem_cons_zero, List.getElem_cons_succ, Act.put, List.setIfInBounds_toArray, List.set_cons_zero, List.set_cons_succ]
    refine wpAnyH_take (i := 3) (v := ?_) rfl (by kernel_rfl) (by kernel_rfl) (by kernel_rfl) (fun _ _ _ h => h) (Or.inl ⟨by rfl, ?_⟩) hS ?_
    rotate_left 1
    · intro w' hSw
      go_simp <;> with_reducible rfl
    try simp only [List.getElem_toArray, List.getElem_cons_zero, List.getElem_cons_succ, Act.put, List.setIfInBounds_toArray, List.set_cons_zero, List.set_cons_succ]
    refine wpAnyH_ready (rs := [0]) (by kernel_rfl) (by simp) (AllReadyH.cons rfl (fun K hK => ?_) AllReadyH.nil)
    go_simp
    (with_reducible refine hcon.mono ?_)
    rintro _ w5 ⟨rfl, rfl⟩
    go_simp
    refine hK _ _ cx0 (fun hS => ?_)
    clear hK K
    try simp only [List.getElem_toArray, List.getElem_cons_zero, List.getElem_cons_succ, Act.put, List.setIfInBounds_toArray, List.set_cons_zero, List.set_cons_succ]
    refine wpAnyH_take (i := 4) (v := ?_) rfl (by kernel_rfl) (by kernel_rfl) (by kernel_rfl) (fun _ _ _ h => h) (Or.inl ⟨by rfl, ?_⟩) hS ?_
    rotate_left 1
    · intro w' hSw
      go_simp <;> with_reducible rfl
    try simp only [List.getElem_toArray, List.getElem_cons_zero, List.getElem_cons_succ, Act.put, List.setIfInBounds_toArray, List.set_cons_zero, List.set_cons_succ]
    refine wpAnyH_ready (rs := [5]) (by kernel_rfl) (by simp) (AllReadyH.cons rfl (fun K hK => ?_) AllReadyH.nil)
    go_simp
    refine hK _ _ cx0 (fun hS => ?_)
    clear hK K
    try simp only [List.getElem_toArray, List.getElem_cons_zero, List.getElem_cons_succ, Act.put, List.setIfInBounds_toArray, List.set_cons_zero, List.set_cons_succ]
    refine wpAnyH_take (i := 6) (v := ?_) rfl (by kernel_rfl) (by kernel_rfl) (by kernel_rfl) (fun _ _ _ h => h) (Or.inl ⟨by rfl, ?_⟩) hS ?_
    rotate_left 1
    · intro w' hSw
      go_simp <;> with_reducible rfl
    try simp only [List.getElem_toArray, List.getElem_cons_zero, List.getElem_cons_succ, Act.put, List.setIfInBounds_toArray, List.set_cons_zero, List.set_cons_succ]
    refine wpAnyH_done (by kernel_rfl) ?_ _
    cases nr with
    | true =>
      go_wp2_with fail
      go_ret
      exact ⟨rfl, hend⟩
    | false =>
      go_wp2_with fail
      go_ret
      refine ⟨?_, hend⟩
      simp
end Go.Proofs.YtjebjninlejoeaaGreatDoor
namespace Go.Proofs.YtjebjninlejoeaaGreatDoor
open Go.RowKit Go.Maps Go.ChangeMaps
set_option linter.unusedVariables false
set_option linter.unusedSimpArgs false
set_option linter.unusedSectionVars false
set_option maxRecDepth 100000

theorem regN_len {n : Int} (h : I64 n) : (regN n).length ≤ 22 := by
  have := Lib.itoa_length_le n h.1 h.2
  unfold regN
  simp; omega
theorem apart_len2 {n : Int} (h : -9223372036854775807 ≤ n ∧ n ≤ 9223372036854775807) (b : Nm) : (apartS n b).length ≤ 22 + b.length := by
  have h1 := Lib.itoa_length_le n (by omega) (by omega)
  have h2 := Lib.itoa_length_le (-n) (by omega) (by omega)
  unfold apartS
  split <;> simp <;> omega
theorem scell_any {B : Nat} (n off : Int) (hn : I64 n) (ho : -9223372036854775807 ≤ off ∧ off ≤ 9223372036854775807) (w : World) (hv : Tv B w) (hB : B ≤ w.heap.size) : Calls Tryz.prog 102 #[.int .i64 n, .int .i64 off] w fun e w' => e = .returned (.string ⟨(cellS n off).toArray⟩) ∧ Below w.heap.size w w' := by
  have hcon := name_any n hn w hv
  have l1 := regN_len hn
  have l2 := apart_len2 ho [32]
  have hc1 : ((⟨#[91]⟩ : ByteArray) ++ ⟨(regN n).toArray⟩) = ⟨(91 :: regN n).toArray⟩ := cat_is [91] _
  have hc2 : ((⟨(91 :: regN n).toArray⟩ : ByteArray) ++ ⟨#[32]⟩) = ⟨((91 :: regN n) ++ [32]).toArray⟩ := cat_is _ [32]
  have hc3 : ((⟨((91 :: regN n) ++ [32]).toArray⟩ : ByteArray) ++ ⟨(apartS off [32]).toArray⟩) = ⟨(((91 :: regN n) ++ [32]) ++ apartS off [32]).toArray⟩ := cat_is _ _
  have hc4 : ((⟨(((91 :: regN n) ++ [32]) ++ apartS off [32]).toArray⟩ : ByteArray) ++ ⟨#[93]⟩) = ⟨((((91 :: regN n) ++ [32]) ++ apartS off [32]) ++ [93]).toArray⟩ := cat_is _ [93]
  have hF : cellS n off = (((91 :: regN n) ++ [32]) ++ apartS off [32]) ++ [93] := by unfold cellS; simp
  rw [hF]
  simp only [List.length_cons, List.length_nil] at l2
  have hcon2 := fun (W : World) (hW : Tv B W) => apart_any off ho [32] (by decide) W hW
  generalize apartS off [32] = ap at *
  generalize regN n = rg at *
  go_enter Tryz.func102, Tryz.ntmps102
  go_wp2_with fail
  (with_reducible refine hcon.mono ?_)
  rintro _ w1 ⟨rfl, b1⟩
  have g1 : ¬ 9223372036854775807 < 1 + rg.length := by omega
  have g2 : ¬ 9223372036854775807 < rg.length + 1 + 1 := by omega
  have g3 : ¬ 9223372036854775807 < rg.length + 1 + 1 + ap.length := by omega
  have g4 : ¬ 9223372036854775807 < rg.length + 1 + 1 + ap.length + 1 := by omega
  go_wp2_with fail
  (with_reducible refine (hcon2 w1 (hv.below b1 hB)).mono ?_)
  rintro _ w2 ⟨rfl, b2⟩
  go_wp2_with fail
  go_ret
  refine ⟨?_, b1.trans (b2.mono b1.size)⟩
  show Ending.returned (Value.string _) = Ending.returned (Value.string _)
  congr 2
end Go.Proofs.YtjebjninlejoeaaGreatDoor
namespace Go.Proofs.YtjebjninlejoeaaGreatDoor
open Go.RowKit Go.Maps Go.ChangeMaps
set_option linter.unusedVariables false
set_option linter.unusedSimpArgs false
set_option linter.unusedSectionVars false
set_option maxRecDepth 100000

/-- Numbers that an int holds, and not the least one at Off. -/
structure IvOk (i : IV) : Prop where
  d : I64 i.dst
  s : I64 i.src
  o : -9223372036854775807 ≤ i.off ∧ i.off ≤ 9223372036854775807
  m : I64 i.imm
  z : I64 i.size
def SB (b : Nat) (op : Int) (nr : Bool) (d s : Int) (u : Bool) (o m z : Int) (W : World) : Prop :=
  W.cell? ⟨b, 0, none⟩ = some (.int .u8 op) ∧ W.cell? ⟨b, 1, none⟩ = some (.bool nr) ∧ W.cell? ⟨b, 2, none⟩ = some (.int .i64 d) ∧ W.cell? ⟨b, 3, none⟩ = some (.int .i64 s) ∧ W.cell? ⟨b, 4, none⟩ = some (.bool u) ∧ W.cell? ⟨b, 5, none⟩ = some (.int .i64 o) ∧ W.cell? ⟨b, 6, none⟩ = some (.int .i64 m) ∧ W.cell? ⟨b, 7, none⟩ = some (.int .i64 z)
theorem sb_of {b : Nat} {op : Int} {nr : Bool} {d s : Int} {u : Bool} {o m z : Int} {W : World} (h : Bk W b 40 [.int .u8 op, .bool nr, .int .i64 d, .int .i64 s, .bool u, .int .i64 o, .int .i64 m, .int .i64 z]) : SB b op nr d s u o m z W :=
  ⟨h.cell 0, h.cell 1, h.cell 2, h.cell 3, h.cell 4, h.cell 5, h.cell 6, h.cell 7⟩
section
variable (op : Int) (nr : Bool) (d s : Int) (u : Bool) (o m z : Int) (hi : IvOk ⟨op, nr, d, s, u, o, m, z⟩) {B : Nat} (w : World) (hv : Tv B w) (hB : B ≤ w.heap.size)
include hi hv hB
theorem show_jump (h : op = 16) : Calls Tryz.prog 36 #[.agg #[.int .u8 op, .bool nr, .int .i64 d, .int .i64 s, .bool u, .int .i64 o, .int .i64 m, .int .i64 z]] w fun e w' => e = .returned (.string ⟨(showI ⟨op, nr, d, s, u, o, m, z⟩).toArray⟩) ∧ Below w.heap.size w w' := by
  have n1 := (Below.refl w.heap.size w).alloc (Nat.le_refl _) (.cells #[.int .u8 op, .bool nr, .int .i64 d, .int .i64 s, .bool u, .int .i64 o, .int .i64 m, .int .i64 z] 40)
  have hx : Bk (w.alloc (.cells #[.int .u8 op, .bool nr, .int .i64 d, .int .i64 s, .bool u, .int .i64 o, .int .i64 m, .int .i64 z] 40)) w.heap.size 40 [.int .u8 op, .bool nr, .int .i64 d, .int .i64 s, .bool u, .int .i64 o, .int .i64 m, .int .i64 z] := Bk.new w _ _
  have hv1 := hv.below n1 hB
  have hit := itoa_any z hi.z.1 hi.z.2 _ hv1
  have hc1 : ((⟨#[106, 117, 109, 112, 32]⟩ : ByteArray) ++ ⟨(apartS o []).toArray⟩) = ⟨((jumpW ++ [32]) ++ apartS o []).toArray⟩ := cat_is (jumpW ++ [32]) _
  have hF : showI ⟨op, nr, d, s, u, o, m, z⟩ = (jumpW ++ [32]) ++ apartS o [] := by unfold showI; subst h; simp
  rw [hF]
  have l2 := apart_len2 hi.o []
  simp only [List.length_nil] at l2
  have hap := fun (W : World) (hW : Tv B W) => apart_any o hi.o [] (by decide) W hW
  have H := Lib.hid h
  clear hF
  subst h
  generalize apartS o [] = ap at *
  go_enter Tryz.func36, Tryz.ntmps36
  go_wp2_with fail
  (with_reducible refine hit.mono ?_)
  rintro _ w1 ⟨rfl, b1⟩
  have hx1 := hx.below b1 hx.lt
  have hbw := n1.trans (b1.mono n1.size)
  have hv2 := hv.below hbw hB
  obtain ⟨c0, c1, c2, c3, c4, c5, c6, c7⟩ := sb_of hx1
  clear hit hx b1 n1
  go_wp2_with fail
  (with_reducible refine (hap w1 hv2).mono ?_)
  rintro _ w2 ⟨rfl, b2⟩
  go_wp2_with fail
  go_ret
  refine ⟨?_, hbw.trans (b2.mono hbw.size)⟩
  show Ending.returned (Value.string _) = Ending.returned (Value.string _)
  congr 2
theorem show_exit (h : op = 28) : Calls Tryz.prog 36 #[.agg #[.int .u8 op, .bool nr, .int .i64 d, .int .i64 s, .bool u, .int .i64 o, .int .i64 m, .int .i64 z]] w fun e w' => e = .returned (.string ⟨(showI ⟨op, nr, d, s, u, o, m, z⟩).toArray⟩) ∧ Below w.heap.size w w' := by
  have n1 := (Below.refl w.heap.size w).alloc (Nat.le_refl _) (.cells #[.int .u8 op, .bool nr, .int .i64 d, .int .i64 s, .bool u, .int .i64 o, .int .i64 m, .int .i64 z] 40)
  have hx : Bk (w.alloc (.cells #[.int .u8 op, .bool nr, .int .i64 d, .int .i64 s, .bool u, .int .i64 o, .int .i64 m, .int .i64 z] 40)) w.heap.size 40 [.int .u8 op, .bool nr, .int .i64 d, .int .i64 s, .bool u, .int .i64 o, .int .i64 m, .int .i64 z] := Bk.new w _ _
  have hv1 := hv.below n1 hB
  have hit := itoa_any z hi.z.1 hi.z.2 _ hv1
  have hF : showI ⟨op, nr, d, s, u, o, m, z⟩ = exitW := by unfold showI; subst h; simp
  rw [hF]
  clear hF
  subst h
  go_enter Tryz.func36, Tryz.ntmps36
  go_wp2_with fail
  (with_reducible refine hit.mono ?_)
  rintro _ w1 ⟨rfl, b1⟩
  have hx1 := hx.below b1 hx.lt
  have hbw := n1.trans (b1.mono n1.size)
  have hv2 := hv.below hbw hB
  obtain ⟨c0, c1, c2, c3, c4, c5, c6, c7⟩ := sb_of hx1
  clear hit hx b1 n1
  go_wp2_with fail
  go_ret
  exact ⟨rfl, hbw⟩
set_option maxHeartbeats 2000000 in
theorem show_neg (h : op = 13) : Calls Tryz.prog 36 #[.agg #[.int .u8 op, .bool nr, .int .i64 d, .int .i64 s, .bool u, .int .i64 o, .int .i64 m, .int .i64 z]] w fun e w' => e = .returned (.string ⟨(showI ⟨op, nr, d, s, u, o, m, z⟩).toArray⟩) ∧ Below w.heap.size w w' := by
  have n1 := (Below.refl w.heap.size w).alloc (Nat.le_refl _) (.cells #[.int .u8 op, .bool nr, .int .i64 d, .int .i64 s, .bool u, .int .i64 o, .int .i64 m, .int .i64 z] 40)
  have hx : Bk (w.alloc (.cells #[.int .u8 op, .bool nr, .int .i64 d, .int .i64 s, .bool u, .int .i64 o, .int .i64 m, .int .i64 z] 40)) w.heap.size 40 [.int .u8 op, .bool nr, .int .i64 d, .int .i64 s, .bool u, .int .i64 o, .int .i64 m, .int .i64 z] := Bk.new w _ _
  have hv1 := hv.below n1 hB
  have hit := itoa_any z hi.z.1 hi.z.2 _ hv1
  have hF : showI ⟨op, nr, d, s, u, o, m, z⟩ = (firstS ⟨op, nr, d, s, u, o, m, z⟩ ++ [32]) ++ regN d := by unfold showI; subst h; simp
  rw [hF]
  have lf := first_len ⟨op, nr, d, s, u, o, m, z⟩
  have lr := regN_len hi.d
  have hfi := fun (W : World) (hW : Tv B W) (hWB : B ≤ W.heap.size) => first_any ⟨op, nr, d, s, u, o, m, z⟩ (.inl (by simp only; omega)) W hW hWB
  have hnm := fun (W : World) (hW : Tv B W) => name_any d hi.d W hW
  clear hF
  unfold ivV at hfi
  generalize firstS ⟨op, nr, d, s, u, o, m, z⟩ = fi at *
  generalize regN d = rg at *
  have hc1 : ((⟨fi.toArray⟩ : ByteArray) ++ ⟨#[32]⟩) = ⟨(fi ++ [32]).toArray⟩ := cat_is fi [32]
  have hc2 : ((⟨(fi ++ [32]).toArray⟩ : ByteArray) ++ ⟨rg.toArray⟩) = ⟨((fi ++ [32]) ++ rg).toArray⟩ := cat_is _ _
  have g1 : ¬ 9223372036854775807 < fi.length + 1 := by omega
  have g2 : ¬ 9223372036854775807 < fi.length + 1 + rg.length := by omega
  have H := Lib.hid h
  clear h
  have d28 : decide (op = 28) = false := decide_eq_false (by have := H.out; omega)
  have e28 : (op == 28) = false := by have := H.out; simp; omega
  have d16 : decide (op = 16) = false := decide_eq_false (by have := H.out; omega)
  have e16 : (op == 16) = false := by have := H.out; simp; omega
  have d14 : decide (op = 14) = false := decide_eq_false (by have := H.out; omega)
  have e14 : (op == 14) = false := by have := H.out; simp; omega
  have d15 : decide (op = 15) = false := decide_eq_false (by have := H.out; omega)
  have e15 : (op == 15) = false := by have := H.out; simp; omega
  have d13 : decide (op = 13) = true := decide_eq_true H.out
  have e13 : (op == 13) = true := by have := H.out; simp; omega
  go_enter Tryz.func36, Tryz.ntmps36
  go_wp2_with fail
  (with_reducible refine hit.mono ?_)
  rintro _ w1 ⟨rfl, b1⟩
  have hx1 := hx.below b1 hx.lt
  have hbw := n1.trans (b1.mono n1.size)
  have hv2 := hv.below hbw hB
  obtain ⟨c0, c1, c2, c3, c4, c5, c6, c7⟩ := sb_of hx1
  clear hit hx b1 n1
  go_wp2_with fail
  have hdr := (Below.refl w1.heap.size w1).drew
  refine wp_region_held_drew (S := fun W => W.cell? ⟨w.heap.size, 0, none⟩ = some (.int .u8 op) ∧ W.cell? ⟨w.heap.size, 1, none⟩ = some (.bool nr) ∧ W.cell? ⟨w.heap.size, 2, none⟩ = some (.int .i64 d) ∧ W.cell? ⟨w.heap.size, 3, none⟩ = some (.int .i64 s) ∧ W.cell? ⟨w.heap.size, 4, none⟩ = some (.bool u) ∧ W.cell? ⟨w.heap.size, 5, none⟩ = some (.int .i64 o) ∧ W.cell? ⟨w.heap.size, 6, none⟩ = some (.int .i64 m) ∧ W.cell? ⟨w.heap.size, 7, none⟩ = some (.int .i64 z)) (by kernel_rfl) (sb_of (hx1.below hdr hx1.lt)) (fun hS => ?_)
  refine wpAnyH_take (i := 0) (v := ?_) rfl (by kernel_rfl) (by kernel_rfl) (by kernel_rfl) (fun _ _ _ h => h) (Or.inl ⟨by rfl, ?_⟩) hS ?_
  rotate_left 1
  · intro w' hSw
    go_simp <;> with_reducible rfl
  try simp only [List.getElem_toArray, List.getElem_cons_zero, List.getElem_cons_succ, Act.put, List.setIfInBounds_toArray, List.set_cons_zero, List.set_cons_succ]
  refine wpAnyH_take (i := 3) (v := ?_) rfl (by kernel_rfl) (by kernel_rfl) (by kernel_rfl) (fun _ _ _ h => h) (Or.inl ⟨by rfl, ?_⟩) hS ?_
  rotate_left 1
  · intro w' hSw
    go_simp <;> with_reducible rfl
  try simp only [List.getElem_toArray, List.getElem_cons_zero, List.getElem_cons_succ, Act.put, List.setIfInBounds_toArray, List.set_cons_zero, List.set_cons_succ]
  refine wpAnyH_take (i := 4) (v := ?_) rfl (by kernel_rfl) (by kernel_rfl) (by kernel_rfl) (fun _ _ _ h => h) (Or.inl ⟨by rfl, ?_⟩) hS ?_
  rotate_left 1
  · intro w' hSw
    go_simp <;> with_reducible rfl
  try simp only [List.getElem_toArray, List.getElem_cons_zero, List.getElem_cons_succ, Act.put, List.setIfInBounds_toArray, List.set_cons_zero, List.set_cons_succ]
  refine wpAnyH_ready (rs := [1]) (by kernel_rfl) (by simp) (AllReadyH.cons rfl (fun K hK => ?_) AllReadyH.nil)
  go_simp
  (with_reducible refine (hfi _ hv2.drew (Nat.le_trans hB hbw.drew.size)).mono ?_)
  rintro _ w5 ⟨rfl, b5⟩
  have hx5 := (Bk.drew hx1).below b5 (Bk.drew hx1).lt
  have hb5 := hbw.drew.trans (b5.mono hbw.drew.size)
  have hv5 := hv.below hb5 hB
  go_simp
  refine hK _ _ (sb_of hx5) (fun hS => ?_)
  clear hK K b5
  try simp only [List.getElem_toArray, List.getElem_cons_zero, List.getElem_cons_succ, Act.put, List.setIfInBounds_toArray, List.set_cons_zero, List.set_cons_succ]
  refine wpAnyH_take (i := 2) (v := ?_) rfl (by kernel_rfl) (by kernel_rfl) (by kernel_rfl) (fun _ _ _ h => h) (Or.inl ⟨by rfl, ?_⟩) hS ?_
  rotate_left 1
  · intro w' hSw
    go_simp <;> with_reducible rfl
  try simp only [List.getElem_toArray, List.getElem_cons_zero, List.getElem_cons_succ, Act.put, List.setIfInBounds_toArray, List.set_cons_zero, List.set_cons_succ]
  refine wpAnyH_ready (rs := [5]) (by kernel_rfl) (by simp) (AllReadyH.cons rfl (fun K hK => ?_) AllReadyH.nil)
  go_simp
  (with_reducible refine (hnm w5 hv5).mono ?_)
  rintro _ w6 ⟨rfl, b6⟩
  have hx6 := hx5.below b6 hx5.lt
  have hb6 := hb5.trans (b6.mono hb5.size)
  go_simp
  refine hK _ _ (sb_of hx6) (fun hS => ?_)
  clear hK K b6
  try simp only [List.getElem_toArray, List.getElem_cons_zero, List.getElem_cons_succ, Act.put, List.setIfInBounds_toArray, List.set_cons_zero, List.set_cons_succ]
  refine wpAnyH_take (i := 6) (v := ?_) rfl (by kernel_rfl) (by kernel_rfl) (by kernel_rfl) (fun _ _ _ h => h) (Or.inl ⟨by rfl, ?_⟩) hS ?_
  rotate_left 1
  · intro w' hSw
    go_simp <;> with_reducible rfl
  try simp only [List.getElem_toArray, List.getElem_cons_zero, List.getElem_cons_succ, Act.put, List.setIfInBounds_toArray, List.set_cons_zero, List.set_cons_succ]
  refine wpAnyH_take (i := 7) (v := ?_) rfl (by kernel_rfl) (by kernel_rfl) (by kernel_rfl) (fun _ _ _ h => h) (Or.inl ⟨by rfl, ?_⟩) hS ?_
  rotate_left 1
  · intro w' hSw
    go_simp <;> with_reducible rfl
  try simp only [List.getElem_toArray, List.getElem_cons_zero, List.getElem_cons_succ, Act.put, List.setIfInBounds_toArray, List.set_cons_zero, List.set_cons_succ]
  refine wpAnyH_done (by kernel_rfl) ?_ _
  go_wp2_with fail
  go_ret
  refine ⟨?_, hb6⟩
  show Ending.returned (Value.string _) = Ending.returned (Value.string _)
  congr 2 <;> simp
end
end Go.Proofs.YtjebjninlejoeaaGreatDoor
namespace Go.Proofs.YtjebjninlejoeaaGreatDoor
open Go.RowKit Go.Maps Go.ChangeMaps
set_option linter.unusedVariables false
set_option linter.unusedSimpArgs false
set_option linter.unusedSectionVars false
set_option maxRecDepth 100000

theorem cellS_len (n off : Int) : (cellS n off).length = (regN n).length + (apartS off [32]).length + 3 := by
  unfold cellS
  simp
  omega
section
variable (op : Int) (nr : Bool) (d s : Int) (u : Bool) (o m z : Int) (hi : IvOk ⟨op, nr, d, s, u, o, m, z⟩) {B : Nat} (w : World) (hv : Tv B w) (hB : B ≤ w.heap.size)
include hi hv hB
set_option maxHeartbeats 2000000 in
theorem show_load (h : op = 14) : Calls Tryz.prog 36 #[.agg #[.int .u8 op, .bool nr, .int .i64 d, .int .i64 s, .bool u, .int .i64 o, .int .i64 m, .int .i64 z]] w fun e w' => e = .returned (.string ⟨(showI ⟨op, nr, d, s, u, o, m, z⟩).toArray⟩) ∧ Below w.heap.size w w' := by
  have n1 := (Below.refl w.heap.size w).alloc (Nat.le_refl _) (.cells #[.int .u8 op, .bool nr, .int .i64 d, .int .i64 s, .bool u, .int .i64 o, .int .i64 m, .int .i64 z] 40)
  have hx : Bk (w.alloc (.cells #[.int .u8 op, .bool nr, .int .i64 d, .int .i64 s, .bool u, .int .i64 o, .int .i64 m, .int .i64 z] 40)) w.heap.size 40 [.int .u8 op, .bool nr, .int .i64 d, .int .i64 s, .bool u, .int .i64 o, .int .i64 m, .int .i64 z] := Bk.new w _ _
  have hv1 := hv.below n1 hB
  have hit := itoa_any z hi.z.1 hi.z.2 _ hv1
  have hF : showI ⟨op, nr, d, s, u, o, m, z⟩ = loadW ++ (Lib.itoa z ++ 32 :: (regN d ++ 44 :: 32 :: cellS s o)) := by unfold showI; subst h; simp
  rw [hF]
  have lz := Lib.itoa_length_le z hi.z.1 hi.z.2
  have lr := regN_len hi.d
  have lc : (cellS s o).length ≤ 60 := by
    have a1 : (regN s).length ≤ 22 := regN_len hi.s
    have a2 : (apartS o [32]).length ≤ 22 + 1 := apart_len2 hi.o [32]
    rw [cellS_len]
    omega
  have hnm := fun (W : World) (hW : Tv B W) => name_any d hi.d W hW
  have hce := fun (W : World) (hW : Tv B W) (hWB : B ≤ W.heap.size) => scell_any s o hi.s hi.o W hW hWB
  clear hF
  generalize cellS s o = ce at *
  generalize regN d = rg at *
  generalize Lib.itoa z = sz at *
  have g1 : ¬ 9223372036854775807 < 4 + sz.length := by omega
  have g2 : ¬ 9223372036854775807 < 4 + sz.length + 1 := by omega
  have g3 : ¬ 9223372036854775807 < 4 + sz.length + 1 + rg.length := by omega
  have g4 : ¬ 9223372036854775807 < 4 + sz.length + 1 + rg.length + 2 := by omega
  have g5 : ¬ 9223372036854775807 < 4 + sz.length + 1 + rg.length + 2 + ce.length := by omega
  have H := Lib.hid h
  clear h
  have d28 : decide (op = 28) = false := decide_eq_false (by have := H.out; omega)
  have e28 : (op == 28) = false := by have := H.out; simp; omega
  have d16 : decide (op = 16) = false := decide_eq_false (by have := H.out; omega)
  have e16 : (op == 16) = false := by have := H.out; simp; omega
  have d14 : decide (op = 14) = true := decide_eq_true (by have := H.out; omega)
  have e14 : (op == 14) = true := by have := H.out; simp; omega
  have d15 : decide (op = 15) = false := decide_eq_false (by have := H.out; omega)
  have e15 : (op == 15) = false := by have := H.out; simp; omega
  have d13 : decide (op = 13) = false := decide_eq_false (by have := H.out; omega)
  have e13 : (op == 13) = false := by have := H.out; simp; omega
  go_enter Tryz.func36, Tryz.ntmps36
  go_wp2_with fail
  (with_reducible refine hit.mono ?_)
  rintro _ w1 ⟨rfl, b1⟩
  have hx1 := hx.below b1 hx.lt
  have hbw := n1.trans (b1.mono n1.size)
  have hv2 := hv.below hbw hB
  obtain ⟨c0, c1, c2, c3, c4, c5, c6, c7⟩ := sb_of hx1
  clear hit hx b1 n1
  go_wp2_with fail
  have hdr := (Below.refl w1.heap.size w1).drew
  refine wp_region_held_drew (S := fun W => W.cell? ⟨w.heap.size, 0, none⟩ = some (.int .u8 op) ∧ W.cell? ⟨w.heap.size, 1, none⟩ = some (.bool nr) ∧ W.cell? ⟨w.heap.size, 2, none⟩ = some (.int .i64 d) ∧ W.cell? ⟨w.heap.size, 3, none⟩ = some (.int .i64 s) ∧ W.cell? ⟨w.heap.size, 4, none⟩ = some (.bool u) ∧ W.cell? ⟨w.heap.size, 5, none⟩ = some (.int .i64 o) ∧ W.cell? ⟨w.heap.size, 6, none⟩ = some (.int .i64 m) ∧ W.cell? ⟨w.heap.size, 7, none⟩ = some (.int .i64 z)) (by kernel_rfl) (sb_of (hx1.below hdr hx1.lt)) (fun hS => ?_)
  have w5e : ∃ w5 : World, Hid (w5 = w1.drew) := ⟨_, Lib.hid rfl⟩
  have hx5 := Bk.drew hx1
  have hb5 := hbw.drew
  have hv5 := hv.below hb5 hB
  refine wpAnyH_take (i := 0) (v := ?_) rfl (by kernel_rfl) (by kernel_rfl) (by kernel_rfl) (fun _ _ _ h => h) (Or.inl ⟨by rfl, ?_⟩) hS ?_
  rotate_left 1
  · intro w' hSw
    go_simp <;> with_reducible rfl
  try simp only [List.getElem_toArray, List.getElem_cons_zero, List.getElem_cons_succ, Act.put, List.setIfInBounds_toArray, List.set_cons_zero, List.set_cons_succ]
  refine wpAnyH_take (i := 1) (v := ?_) rfl (by kernel_rfl) (by kernel_rfl) (by kernel_rfl) (fun _ _ _ h => h) (Or.inl ⟨by rfl, ?_⟩) hS ?_
  rotate_left 1
  · intro w' hSw
    go_simp <;> with_reducible rfl
  try simp only [List.getElem_toArray, List.getElem_cons_zero, List.getElem_cons_succ, Act.put, List.setIfInBounds_toArray, List.set_cons_zero, List.set_cons_succ]
  refine wpAnyH_take (i := 2) (v := ?_) rfl (by kernel_rfl) (by kernel_rfl) (by kernel_rfl) (fun _ _ _ h => h) (Or.inl ⟨by rfl, ?_⟩) hS ?_
  rotate_left 1
  · intro w' hSw
    go_simp <;> with_reducible rfl
  try simp only [List.getElem_toArray, List.getElem_cons_zero, List.getElem_cons_succ, Act.put, List.setIfInBounds_toArray, List.set_cons_zero, List.set_cons_succ]
  refine wpAnyH_take (i := 3) (v := ?_) rfl (by kernel_rfl) (by kernel_rfl) (by kernel_rfl) (fun _ _ _ h => h) (Or.inl ⟨by rfl, ?_⟩) hS ?_
  rotate_left 1
  · intro w' hSw
    go_simp <;> with_reducible rfl
  try simp only [List.getElem_toArray, List.getElem_cons_zero, List.getElem_cons_succ, Act.put, List.setIfInBounds_toArray, List.set_cons_zero, List.set_cons_succ]
  refine wpAnyH_take (i := 4) (v := ?_) rfl (by kernel_rfl) (by kernel_rfl) (by kernel_rfl) (fun _ _ _ h => h) (Or.inl ⟨by rfl, ?_⟩) hS ?_
  rotate_left 1
  · intro w' hSw
    go_simp <;> with_reducible rfl
  try simp only [List.getElem_toArray, List.getElem_cons_zero, List.getElem_cons_succ, Act.put, List.setIfInBounds_toArray, List.set_cons_zero, List.set_cons_succ]
  refine wpAnyH_take (i := 8) (v := ?_) rfl (by kernel_rfl) (by kernel_rfl) (by kernel_rfl) (fun _ _ _ h => h) (Or.inl ⟨by rfl, ?_⟩) hS ?_
  rotate_left 1
  · intro w' hSw
    go_simp <;> with_reducible rfl
  try simp only [List.getElem_toArray, List.getElem_cons_zero, List.getElem_cons_succ, Act.put, List.setIfInBounds_toArray, List.set_cons_zero, List.set_cons_succ]
  refine wpAnyH_take (i := 9) (v := ?_) rfl (by kernel_rfl) (by kernel_rfl) (by kernel_rfl) (fun _ _ _ h => h) (Or.inl ⟨by rfl, ?_⟩) hS ?_
  rotate_left 1
  · intro w' hSw
    go_simp <;> with_reducible rfl
  try simp only [List.getElem_toArray, List.getElem_cons_zero, List.getElem_cons_succ, Act.put, List.setIfInBounds_toArray, List.set_cons_zero, List.set_cons_succ]
  refine wpAnyH_take (i := 10) (v := ?_) rfl (by kernel_rfl) (by kernel_rfl) (by kernel_rfl) (fun _ _ _ h => h) (Or.inl ⟨by rfl, ?_⟩) hS ?_
  rotate_left 1
  · intro w' hSw
    go_simp <;> with_reducible rfl
  try simp only [List.getElem_toArray, List.getElem_cons_zero, List.getElem_cons_succ, Act.put, List.setIfInBounds_toArray, List.set_cons_zero, List.set_cons_succ]
  refine wpAnyH_take (i := 11) (v := ?_) rfl (by kernel_rfl) (by kernel_rfl) (by kernel_rfl) (fun _ _ _ h => h) (Or.inl ⟨by rfl, ?_⟩) hS ?_
  rotate_left 1
  · intro w' hSw
    go_simp <;> with_reducible rfl
  try simp only [List.getElem_toArray, List.getElem_cons_zero, List.getElem_cons_succ, Act.put, List.setIfInBounds_toArray, List.set_cons_zero, List.set_cons_succ]
  refine wpAnyH_ready (rs := [5]) (by kernel_rfl) (by simp) (AllReadyH.cons rfl (fun K hK => ?_) AllReadyH.nil)
  go_simp
  (with_reducible refine (hnm _ hv5).mono ?_)
  rintro _ w6 ⟨rfl, c6⟩
  have hx6 := hx5.below c6 hx5.lt
  have hb6 := hb5.trans (c6.mono hb5.size)
  have hv6 := hv.below hb6 hB
  go_simp
  refine hK _ _ (sb_of hx6) (fun hS => ?_)
  clear hK K c6
  try simp only [List.getElem_toArray, List.getElem_cons_zero, List.getElem_cons_succ, Act.put, List.setIfInBounds_toArray, List.set_cons_zero, List.set_cons_succ]
  refine wpAnyH_take (i := 6) (v := ?_) rfl (by kernel_rfl) (by kernel_rfl) (by kernel_rfl) (fun _ _ _ h => h) (Or.inl ⟨by rfl, ?_⟩) hS ?_
  rotate_left 1
  · intro w' hSw
    go_simp <;> with_reducible rfl
  try simp only [List.getElem_toArray, List.getElem_cons_zero, List.getElem_cons_succ, Act.put, List.setIfInBounds_toArray, List.set_cons_zero, List.set_cons_succ]
  refine wpAnyH_take (i := 7) (v := ?_) rfl (by kernel_rfl) (by kernel_rfl) (by kernel_rfl) (fun _ _ _ h => h) (Or.inl ⟨by rfl, ?_⟩) hS ?_
  rotate_left 1
  · intro w' hSw
    go_simp <;> with_reducible rfl
  try simp only [List.getElem_toArray, List.getElem_cons_zero, List.getElem_cons_succ, Act.put, List.setIfInBounds_toArray, List.set_cons_zero, List.set_cons_succ]
  refine wpAnyH_ready (rs := [12]) (by kernel_rfl) (by simp) (AllReadyH.cons rfl (fun K hK => ?_) AllReadyH.nil)
  go_simp
  (with_reducible refine (hce _ hv6 (Nat.le_trans hB hb6.size)).mono ?_)
  rintro _ w7 ⟨rfl, c7⟩
  have hx7 := hx6.below c7 hx6.lt
  have hb7 := hb6.trans (c7.mono hb6.size)
  have hv7 := hv.below hb7 hB
  go_simp
  refine hK _ _ (sb_of hx7) (fun hS => ?_)
  clear hK K c7
  try simp only [List.getElem_toArray, List.getElem_cons_zero, List.getElem_cons_succ, Act.put, List.setIfInBounds_toArray, List.set_cons_zero, List.set_cons_succ]
  refine wpAnyH_take (i := 13) (v := ?_) rfl (by kernel_rfl) (by kernel_rfl) (by kernel_rfl) (fun _ _ _ h => h) (Or.inl ⟨by rfl, ?_⟩) hS ?_
  rotate_left 1
  · intro w' hSw
    go_simp <;> with_reducible rfl
  try simp only [List.getElem_toArray, List.getElem_cons_zero, List.getElem_cons_succ, Act.put, List.setIfInBounds_toArray, List.set_cons_zero, List.set_cons_succ]
  refine wpAnyH_take (i := 14) (v := ?_) rfl (by kernel_rfl) (by kernel_rfl) (by kernel_rfl) (fun _ _ _ h => h) (Or.inl ⟨by rfl, ?_⟩) hS ?_
  rotate_left 1
  · intro w' hSw
    go_simp <;> with_reducible rfl
  try simp only [List.getElem_toArray, List.getElem_cons_zero, List.getElem_cons_succ, Act.put, List.setIfInBounds_toArray, List.set_cons_zero, List.set_cons_succ]
  refine wpAnyH_done (by kernel_rfl) ?_ _
  go_wp2_with fail
  go_ret
  refine ⟨?_, hb7⟩
  show Ending.returned (Value.string _) = Ending.returned (Value.string _)
  congr 2
  apply Go.WideShapes.bytes_inj
  simp [loadW]
set_option maxHeartbeats 2000000 in
theorem show_put (h : op = 15) : Calls Tryz.prog 36 #[.agg #[.int .u8 op, .bool nr, .int .i64 d, .int .i64 s, .bool u, .int .i64 o, .int .i64 m, .int .i64 z]] w fun e w' => e = .returned (.string ⟨(showI ⟨op, nr, d, s, u, o, m, z⟩).toArray⟩) ∧ Below w.heap.size w w' := by
  have n1 := (Below.refl w.heap.size w).alloc (Nat.le_refl _) (.cells #[.int .u8 op, .bool nr, .int .i64 d, .int .i64 s, .bool u, .int .i64 o, .int .i64 m, .int .i64 z] 40)
  have hx : Bk (w.alloc (.cells #[.int .u8 op, .bool nr, .int .i64 d, .int .i64 s, .bool u, .int .i64 o, .int .i64 m, .int .i64 z] 40)) w.heap.size 40 [.int .u8 op, .bool nr, .int .i64 d, .int .i64 s, .bool u, .int .i64 o, .int .i64 m, .int .i64 z] := Bk.new w _ _
  have hv1 := hv.below n1 hB
  have hit := itoa_any z hi.z.1 hi.z.2 _ hv1
  have hF : showI ⟨op, nr, d, s, u, o, m, z⟩ = putW ++ (Lib.itoa z ++ 32 :: (cellS d o ++ 44 :: 32 :: lastS ⟨op, nr, d, s, u, o, m, z⟩)) := by unfold showI; subst h; simp
  rw [hF]
  have lz := Lib.itoa_length_le z hi.z.1 hi.z.2
  have lc : (cellS d o).length ≤ 60 := by
    have a1 : (regN d).length ≤ 22 := regN_len hi.d
    have a2 : (apartS o [32]).length ≤ 22 + 1 := apart_len2 hi.o [32]
    rw [cellS_len]
    omega
  have ll : (lastS ⟨op, nr, d, s, u, o, m, z⟩).length ≤ 22 := by
    have a1 : (regN s).length ≤ 22 := regN_len hi.s
    have a2 : (Lib.itoa m).length ≤ 21 := Lib.itoa_length_le m hi.m.1 hi.m.2
    unfold lastS
    split <;> simp only <;> omega
  have hla := fun (W : World) (hW : Tv B W) (hWB : B ≤ W.heap.size) => last_any ⟨op, nr, d, s, u, o, m, z⟩ hi.m hi.s W hW hWB
  have hce := fun (W : World) (hW : Tv B W) (hWB : B ≤ W.heap.size) => scell_any d o hi.d hi.o W hW hWB
  clear hF
  unfold ivV at hla
  generalize cellS d o = ce at *
  generalize lastS ⟨op, nr, d, s, u, o, m, z⟩ = la at *
  generalize Lib.itoa z = sz at *
  have g1 : ¬ 9223372036854775807 < 3 + sz.length := by omega
  have g2 : ¬ 9223372036854775807 < 3 + sz.length + 1 := by omega
  have g3 : ¬ 9223372036854775807 < 3 + sz.length + 1 + ce.length := by omega
  have g4 : ¬ 9223372036854775807 < 3 + sz.length + 1 + ce.length + 2 := by omega
  have g5 : ¬ 9223372036854775807 < 3 + sz.length + 1 + ce.length + 2 + la.length := by omega
  have H := Lib.hid h
  clear h
  have d28 : decide (op = 28) = false := decide_eq_false (by have := H.out; omega)
  have e28 : (op == 28) = false := by have := H.out; simp; omega
  have d16 : decide (op = 16) = false := decide_eq_false (by have := H.out; omega)
  have e16 : (op == 16) = false := by have := H.out; simp; omega
  have d14 : decide (op = 14) = false := decide_eq_false (by have := H.out; omega)
  have e14 : (op == 14) = false := by have := H.out; simp; omega
  have d15 : decide (op = 15) = true := decide_eq_true (by have := H.out; omega)
  have e15 : (op == 15) = true := by have := H.out; simp; omega
  have d13 : decide (op = 13) = false := decide_eq_false (by have := H.out; omega)
  have e13 : (op == 13) = false := by have := H.out; simp; omega
  go_enter Tryz.func36, Tryz.ntmps36
  go_wp2_with fail
  (with_reducible refine hit.mono ?_)
  rintro _ w1 ⟨rfl, b1⟩
  have hx1 := hx.below b1 hx.lt
  have hbw := n1.trans (b1.mono n1.size)
  have hv2 := hv.below hbw hB
  obtain ⟨c0, c1, c2, c3, c4, c5, c6, c7⟩ := sb_of hx1
  clear hit hx b1 n1
  go_wp2_with fail
  have hdr := (Below.refl w1.heap.size w1).drew
  refine wp_region_held_drew (S := fun W => W.cell? ⟨w.heap.size, 0, none⟩ = some (.int .u8 op) ∧ W.cell? ⟨w.heap.size, 1, none⟩ = some (.bool nr) ∧ W.cell? ⟨w.heap.size, 2, none⟩ = some (.int .i64 d) ∧ W.cell? ⟨w.heap.size, 3, none⟩ = some (.int .i64 s) ∧ W.cell? ⟨w.heap.size, 4, none⟩ = some (.bool u) ∧ W.cell? ⟨w.heap.size, 5, none⟩ = some (.int .i64 o) ∧ W.cell? ⟨w.heap.size, 6, none⟩ = some (.int .i64 m) ∧ W.cell? ⟨w.heap.size, 7, none⟩ = some (.int .i64 z)) (by kernel_rfl) (sb_of (hx1.below hdr hx1.lt)) (fun hS => ?_)
  have hx5 := Bk.drew hx1
  have hb5 := hbw.drew
  have hv5 := hv.below hb5 hB
  refine wpAnyH_take (i := 0) (v := ?_) rfl (by kernel_rfl) (by kernel_rfl) (by kernel_rfl) (fun _ _ _ h => h) (Or.inl ⟨by rfl, ?_⟩) hS ?_
  rotate_left 1
  · intro w' hSw
    go_simp <;> with_reducible rfl
  try simp only [List.getElem_toArray, List.getElem_cons_zero, List.getElem_cons_succ, Act.put, List.setIfInBounds_toArray, List.set_cons_zero, List.set_cons_succ]
  refine wpAnyH_take (i := 1) (v := ?_) rfl (by kernel_rfl) (by kernel_rfl) (by kernel_rfl) (fun _ _ _ h => h) (Or.inl ⟨by rfl, ?_⟩) hS ?_
  rotate_left 1
  · intro w' hSw
    go_simp <;> with_reducible rfl
  try simp only [List.getElem_toArray, List.getElem_cons_zero, List.getElem_cons_succ, Act.put, List.setIfInBounds_toArray, List.set_cons_zero, List.set_cons_succ]
  refine wpAnyH_take (i := 2) (v := ?_) rfl (by kernel_rfl) (by kernel_rfl) (by kernel_rfl) (fun _ _ _ h => h) (Or.inl ⟨by rfl, ?_⟩) hS ?_
  rotate_left 1
  · intro w' hSw
    go_simp <;> with_reducible rfl
  try simp only [List.getElem_toArray, List.getElem_cons_zero, List.getElem_cons_succ, Act.put, List.setIfInBounds_toArray, List.set_cons_zero, List.set_cons_succ]
  refine wpAnyH_take (i := 3) (v := ?_) rfl (by kernel_rfl) (by kernel_rfl) (by kernel_rfl) (fun _ _ _ h => h) (Or.inl ⟨by rfl, ?_⟩) hS ?_
  rotate_left 1
  · intro w' hSw
    go_simp <;> with_reducible rfl
  try simp only [List.getElem_toArray, List.getElem_cons_zero, List.getElem_cons_succ, Act.put, List.setIfInBounds_toArray, List.set_cons_zero, List.set_cons_succ]
  refine wpAnyH_take (i := 4) (v := ?_) rfl (by kernel_rfl) (by kernel_rfl) (by kernel_rfl) (fun _ _ _ h => h) (Or.inl ⟨by rfl, ?_⟩) hS ?_
  rotate_left 1
  · intro w' hSw
    go_simp <;> with_reducible rfl
  try simp only [List.getElem_toArray, List.getElem_cons_zero, List.getElem_cons_succ, Act.put, List.setIfInBounds_toArray, List.set_cons_zero, List.set_cons_succ]
  refine wpAnyH_take (i := 5) (v := ?_) rfl (by kernel_rfl) (by kernel_rfl) (by kernel_rfl) (fun _ _ _ h => h) (Or.inl ⟨by rfl, ?_⟩) hS ?_
  rotate_left 1
  · intro w' hSw
    go_simp <;> with_reducible rfl
  try simp only [List.getElem_toArray, List.getElem_cons_zero, List.getElem_cons_succ, Act.put, List.setIfInBounds_toArray, List.set_cons_zero, List.set_cons_succ]
  refine wpAnyH_take (i := 6) (v := ?_) rfl (by kernel_rfl) (by kernel_rfl) (by kernel_rfl) (fun _ _ _ h => h) (Or.inl ⟨by rfl, ?_⟩) hS ?_
  rotate_left 1
  · intro w' hSw
    go_simp <;> with_reducible rfl
  try simp only [List.getElem_toArray, List.getElem_cons_zero, List.getElem_cons_succ, Act.put, List.setIfInBounds_toArray, List.set_cons_zero, List.set_cons_succ]
  refine wpAnyH_take (i := 10) (v := ?_) rfl (by kernel_rfl) (by kernel_rfl) (by kernel_rfl) (fun _ _ _ h => h) (Or.inl ⟨by rfl, ?_⟩) hS ?_
  rotate_left 1
  · intro w' hSw
    go_simp <;> with_reducible rfl
  try simp only [List.getElem_toArray, List.getElem_cons_zero, List.getElem_cons_succ, Act.put, List.setIfInBounds_toArray, List.set_cons_zero, List.set_cons_succ]
  refine wpAnyH_ready (rs := [7]) (by kernel_rfl) (by simp) (AllReadyH.cons rfl (fun K hK => ?_) AllReadyH.nil)
  go_simp
  (with_reducible refine (hce _ hv5 (Nat.le_trans hB hb5.size)).mono ?_)
  rintro _ w6 ⟨rfl, c6⟩
  have hx6 := hx5.below c6 hx5.lt
  have hb6 := hb5.trans (c6.mono hb5.size)
  have hv6 := hv.below hb6 hB
  go_simp
  refine hK _ _ (sb_of hx6) (fun hS => ?_)
  clear hK K c6
  try simp only [List.getElem_toArray, List.getElem_cons_zero, List.getElem_cons_succ, Act.put, List.setIfInBounds_toArray, List.set_cons_zero, List.set_cons_succ]
  refine wpAnyH_take (i := 8) (v := ?_) rfl (by kernel_rfl) (by kernel_rfl) (by kernel_rfl) (fun _ _ _ h => h) (Or.inl ⟨by rfl, ?_⟩) hS ?_
  rotate_left 1
  · intro w' hSw
    go_simp <;> with_reducible rfl
  try simp only [List.getElem_toArray, List.getElem_cons_zero, List.getElem_cons_succ, Act.put, List.setIfInBounds_toArray, List.set_cons_zero, List.set_cons_succ]
  refine wpAnyH_take (i := 9) (v := ?_) rfl (by kernel_rfl) (by kernel_rfl) (by kernel_rfl) (fun _ _ _ h => h) (Or.inl ⟨by rfl, ?_⟩) hS ?_
  rotate_left 1
  · intro w' hSw
    go_simp <;> with_reducible rfl
  try simp only [List.getElem_toArray, List.getElem_cons_zero, List.getElem_cons_succ, Act.put, List.setIfInBounds_toArray, List.set_cons_zero, List.set_cons_succ]
  refine wpAnyH_ready (rs := [11]) (by kernel_rfl) (by simp) (AllReadyH.cons rfl (fun K hK => ?_) AllReadyH.nil)
  go_simp
  (with_reducible refine (hla _ hv6 (Nat.le_trans hB hb6.size)).mono ?_)
  rintro _ w7 ⟨rfl, c7⟩
  have hx7 := hx6.below c7 hx6.lt
  have hb7 := hb6.trans (c7.mono hb6.size)
  have hv7 := hv.below hb7 hB
  go_simp
  refine hK _ _ (sb_of hx7) (fun hS => ?_)
  clear hK K c7
  try simp only [List.getElem_toArray, List.getElem_cons_zero, List.getElem_cons_succ, Act.put, List.setIfInBounds_toArray, List.set_cons_zero, List.set_cons_succ]
  refine wpAnyH_take (i := 12) (v := ?_) rfl (by kernel_rfl) (by kernel_rfl) (by kernel_rfl) (fun _ _ _ h => h) (Or.inl ⟨by rfl, ?_⟩) hS ?_
  rotate_left 1
  · intro w' hSw
    go_simp <;> with_reducible rfl
  try simp only [List.getElem_toArray, List.getElem_cons_zero, List.getElem_cons_succ, Act.put, List.setIfInBounds_toArray, List.set_cons_zero, List.set_cons_succ]
  refine wpAnyH_take (i := 13) (v := ?_) rfl (by kernel_rfl) (by kernel_rfl) (by kernel_rfl) (fun _ _ _ h => h) (Or.inl ⟨by rfl, ?_⟩) hS ?_
  rotate_left 1
  · intro w' hSw
    go_simp <;> with_reducible rfl
  try simp only [List.getElem_toArray, List.getElem_cons_zero, List.getElem_cons_succ, Act.put, List.setIfInBounds_toArray, List.set_cons_zero, List.set_cons_succ]
  refine wpAnyH_done (by kernel_rfl) ?_ _
  go_wp2_with fail
  go_ret
  refine ⟨?_, hb7⟩
  show Ending.returned (Value.string _) = Ending.returned (Value.string _)
  congr 2
  apply Go.WideShapes.bytes_inj
  simp [putW]
end
end Go.Proofs.YtjebjninlejoeaaGreatDoor
namespace Go.Proofs.YtjebjninlejoeaaGreatDoor
open Go.RowKit Go.Maps Go.ChangeMaps
set_option linter.unusedVariables false
set_option linter.unusedSimpArgs false
set_option linter.unusedSectionVars false
set_option maxRecDepth 100000

section
variable (op : Int) (nr : Bool) (d s : Int) (u : Bool) (o m z : Int) (hi : IvOk ⟨op, nr, d, s, u, o, m, z⟩) {B : Nat} (w : World) (hv : Tv B w) (hB : B ≤ w.heap.size)
include hi hv hB
set_option maxHeartbeats 2000000 in
theorem show_alu (h : 1 ≤ op ∧ op ≤ 12) : Calls Tryz.prog 36 #[.agg #[.int .u8 op, .bool nr, .int .i64 d, .int .i64 s, .bool u, .int .i64 o, .int .i64 m, .int .i64 z]] w fun e w' => e = .returned (.string ⟨(showI ⟨op, nr, d, s, u, o, m, z⟩).toArray⟩) ∧ Below w.heap.size w w' := by
  have n1 := (Below.refl w.heap.size w).alloc (Nat.le_refl _) (.cells #[.int .u8 op, .bool nr, .int .i64 d, .int .i64 s, .bool u, .int .i64 o, .int .i64 m, .int .i64 z] 40)
  have hx : Bk (w.alloc (.cells #[.int .u8 op, .bool nr, .int .i64 d, .int .i64 s, .bool u, .int .i64 o, .int .i64 m, .int .i64 z] 40)) w.heap.size 40 [.int .u8 op, .bool nr, .int .i64 d, .int .i64 s, .bool u, .int .i64 o, .int .i64 m, .int .i64 z] := Bk.new w _ _
  have hv1 := hv.below n1 hB
  have hit := itoa_any z hi.z.1 hi.z.2 _ hv1
  have hF : showI ⟨op, nr, d, s, u, o, m, z⟩ = firstS ⟨op, nr, d, s, u, o, m, z⟩ ++ 32 :: (regN d ++ 44 :: 32 :: (lastS ⟨op, nr, d, s, u, o, m, z⟩ ++ [])) := by
    unfold showI
    simp only [show op ≠ 28 by omega, show op ≠ 16 by omega, show op ≠ 14 by omega, show op ≠ 15 by omega, show op ≠ 13 by omega, show ¬ 17 ≤ op by omega, if_false, if_true]
  rw [hF]
  have lf := first_len ⟨op, nr, d, s, u, o, m, z⟩
  have lr : (regN d).length ≤ 22 := regN_len hi.d
  have ll : (lastS ⟨op, nr, d, s, u, o, m, z⟩).length ≤ 22 := by
    have a1 : (regN s).length ≤ 22 := regN_len hi.s
    have a2 : (Lib.itoa m).length ≤ 21 := Lib.itoa_length_le m hi.m.1 hi.m.2
    unfold lastS
    split <;> simp only <;> omega
  have lap : (apartS o []).length ≤ 22 := apart_len2 hi.o []
  have hfi := fun (W : World) (hW : Tv B W) (hWB : B ≤ W.heap.size) => first_any ⟨op, nr, d, s, u, o, m, z⟩ (.inl (by simp only; omega)) W hW hWB
  have hnm := fun (W : World) (hW : Tv B W) => name_any d hi.d W hW
  have hla := fun (W : World) (hW : Tv B W) (hWB : B ≤ W.heap.size) => last_any ⟨op, nr, d, s, u, o, m, z⟩ hi.m hi.s W hW hWB
  have hap := fun (W : World) (hW : Tv B W) => apart_any o hi.o [] (by decide) W hW
  clear hF
  unfold ivV at hfi hla
  generalize firstS ⟨op, nr, d, s, u, o, m, z⟩ = fi at *
  generalize lastS ⟨op, nr, d, s, u, o, m, z⟩ = la at *
  generalize apartS o [] = ap at *
  generalize regN d = rg at *
  have g1 : ¬ 9223372036854775807 < fi.length + 1 := by omega
  have g2 : ¬ 9223372036854775807 < fi.length + 1 + rg.length := by omega
  have g3 : ¬ 9223372036854775807 < fi.length + 1 + rg.length + 2 := by omega
  have g4 : ¬ 9223372036854775807 < fi.length + 1 + rg.length + 2 + la.length := by omega
  have g5 : ¬ 9223372036854775807 < 2 + ap.length := by omega
  have g6 : ¬ 9223372036854775807 < fi.length + 1 + rg.length + 2 + la.length + (2 + ap.length) := by omega
  have H := Lib.hid h
  clear h
  have d28 : decide (op = 28) = false := decide_eq_false (by have := H.out; omega)
  have e28 : (op == 28) = false := by have := H.out; simp; omega
  have d16 : decide (op = 16) = false := decide_eq_false (by have := H.out; omega)
  have e16 : (op == 16) = false := by have := H.out; simp; omega
  have d14 : decide (op = 14) = false := decide_eq_false (by have := H.out; omega)
  have e14 : (op == 14) = false := by have := H.out; simp; omega
  have d15 : decide (op = 15) = false := decide_eq_false (by have := H.out; omega)
  have e15 : (op == 15) = false := by have := H.out; simp; omega
  have d13 : decide (op = 13) = false := decide_eq_false (by have := H.out; omega)
  have e13 : (op == 13) = false := by have := H.out; simp; omega
  have d17 : decide ((17 : Int) ≤ op) = false := decide_eq_false (by have := H.out; omega)
  go_enter Tryz.func36, Tryz.ntmps36
  go_wp2_with fail
  (with_reducible refine hit.mono ?_)
  rintro _ w1 ⟨rfl, b1⟩
  have hx1 := hx.below b1 hx.lt
  have hbw := n1.trans (b1.mono n1.size)
  have hv2 := hv.below hbw hB
  obtain ⟨c0, c1, c2, c3, c4, c5, c6, c7⟩ := sb_of hx1
  clear hit hx b1 n1
  go_wp2_with fail
  have hdr := (Below.refl w1.heap.size w1).drew
  refine wp_region_held_drew (S := fun W => W.cell? ⟨w.heap.size, 0, none⟩ = some (.int .u8 op) ∧ W.cell? ⟨w.heap.size, 1, none⟩ = some (.bool nr) ∧ W.cell? ⟨w.heap.size, 2, none⟩ = some (.int .i64 d) ∧ W.cell? ⟨w.heap.size, 3, none⟩ = some (.int .i64 s) ∧ W.cell? ⟨w.heap.size, 4, none⟩ = some (.bool u) ∧ W.cell? ⟨w.heap.size, 5, none⟩ = some (.int .i64 o) ∧ W.cell? ⟨w.heap.size, 6, none⟩ = some (.int .i64 m) ∧ W.cell? ⟨w.heap.size, 7, none⟩ = some (.int .i64 z)) (by kernel_rfl) (sb_of (hx1.below hdr hx1.lt)) (fun hS => ?_)
  have hx5 := Bk.drew hx1
  have hb5 := hbw.drew
  have hv5 := hv.below hb5 hB
  refine wpAnyH_take (i := 0) (v := ?_) rfl (by kernel_rfl) (by kernel_rfl) (by kernel_rfl) (fun _ _ _ h => h) (Or.inl ⟨by rfl, ?_⟩) hS ?_
  rotate_left 1
  · intro w' hSw
    go_simp <;> with_reducible rfl
  try simp only [List.getElem_toArray, List.getElem_cons_zero, List.getElem_cons_succ, Act.put, List.setIfInBounds_toArray, List.set_cons_zero, List.set_cons_succ]
  refine wpAnyH_take (i := 3) (v := ?_) rfl (by kernel_rfl) (by kernel_rfl) (by kernel_rfl) (fun _ _ _ h => h) (Or.inl ⟨by rfl, ?_⟩) hS ?_
  rotate_left 1
  · intro w' hSw
    go_simp <;> with_reducible rfl
  try simp only [List.getElem_toArray, List.getElem_cons_zero, List.getElem_cons_succ, Act.put, List.setIfInBounds_toArray, List.set_cons_zero, List.set_cons_succ]
  refine wpAnyH_take (i := 4) (v := ?_) rfl (by kernel_rfl) (by kernel_rfl) (by kernel_rfl) (fun _ _ _ h => h) (Or.inl ⟨by rfl, ?_⟩) hS ?_
  rotate_left 1
  · intro w' hSw
    go_simp <;> with_reducible rfl
  try simp only [List.getElem_toArray, List.getElem_cons_zero, List.getElem_cons_succ, Act.put, List.setIfInBounds_toArray, List.set_cons_zero, List.set_cons_succ]
  refine wpAnyH_take (i := 8) (v := ?_) rfl (by kernel_rfl) (by kernel_rfl) (by kernel_rfl) (fun _ _ _ h => h) (Or.inl ⟨by rfl, ?_⟩) hS ?_
  rotate_left 1
  · intro w' hSw
    go_simp <;> with_reducible rfl
  try simp only [List.getElem_toArray, List.getElem_cons_zero, List.getElem_cons_succ, Act.put, List.setIfInBounds_toArray, List.set_cons_zero, List.set_cons_succ]
  refine wpAnyH_ready (rs := [1]) (by kernel_rfl) (by simp) (AllReadyH.cons rfl (fun K hK => ?_) AllReadyH.nil)
  go_simp
  (with_reducible refine (hfi _ hv5 (Nat.le_trans hB hb5.size)).mono ?_)
  rintro _ w6 ⟨rfl, y6⟩
  have hx6 := hx5.below y6 hx5.lt
  have hb6 := hb5.trans (y6.mono hb5.size)
  have hv6 := hv.below hb6 hB
  go_simp
  refine hK _ _ (sb_of hx6) (fun hS => ?_)
  clear hK K y6
  try simp only [List.getElem_toArray, List.getElem_cons_zero, List.getElem_cons_succ, Act.put, List.setIfInBounds_toArray, List.set_cons_zero, List.set_cons_succ]
  refine wpAnyH_take (i := 2) (v := ?_) rfl (by kernel_rfl) (by kernel_rfl) (by kernel_rfl) (fun _ _ _ h => h) (Or.inl ⟨by rfl, ?_⟩) hS ?_
  rotate_left 1
  · intro w' hSw
    go_simp <;> with_reducible rfl
  try simp only [List.getElem_toArray, List.getElem_cons_zero, List.getElem_cons_succ, Act.put, List.setIfInBounds_toArray, List.set_cons_zero, List.set_cons_succ]
  refine wpAnyH_ready (rs := [5]) (by kernel_rfl) (by simp) (AllReadyH.cons rfl (fun K hK => ?_) AllReadyH.nil)
  go_simp
  (with_reducible refine (hnm _ hv6).mono ?_)
  rintro _ w7 ⟨rfl, y7⟩
  have hx7 := hx6.below y7 hx6.lt
  have hb7 := hb6.trans (y7.mono hb6.size)
  have hv7 := hv.below hb7 hB
  go_simp
  refine hK _ _ (sb_of hx7) (fun hS => ?_)
  clear hK K y7
  try simp only [List.getElem_toArray, List.getElem_cons_zero, List.getElem_cons_succ, Act.put, List.setIfInBounds_toArray, List.set_cons_zero, List.set_cons_succ]
  refine wpAnyH_take (i := 6) (v := ?_) rfl (by kernel_rfl) (by kernel_rfl) (by kernel_rfl) (fun _ _ _ h => h) (Or.inl ⟨by rfl, ?_⟩) hS ?_
  rotate_left 1
  · intro w' hSw
    go_simp <;> with_reducible rfl
  try simp only [List.getElem_toArray, List.getElem_cons_zero, List.getElem_cons_succ, Act.put, List.setIfInBounds_toArray, List.set_cons_zero, List.set_cons_succ]
  refine wpAnyH_take (i := 7) (v := ?_) rfl (by kernel_rfl) (by kernel_rfl) (by kernel_rfl) (fun _ _ _ h => h) (Or.inl ⟨by rfl, ?_⟩) hS ?_
  rotate_left 1
  · intro w' hSw
    go_simp <;> with_reducible rfl
  try simp only [List.getElem_toArray, List.getElem_cons_zero, List.getElem_cons_succ, Act.put, List.setIfInBounds_toArray, List.set_cons_zero, List.set_cons_succ]
  refine wpAnyH_ready (rs := [9]) (by kernel_rfl) (by simp) (AllReadyH.cons rfl (fun K hK => ?_) AllReadyH.nil)
  go_simp
  (with_reducible refine (hla _ hv7 (Nat.le_trans hB hb7.size)).mono ?_)
  rintro _ w8 ⟨rfl, y8⟩
  have hx8 := hx7.below y8 hx7.lt
  have hb8 := hb7.trans (y8.mono hb7.size)
  have hv8 := hv.below hb8 hB
  go_simp
  refine hK _ _ (sb_of hx8) (fun hS => ?_)
  clear hK K y8
  try simp only [List.getElem_toArray, List.getElem_cons_zero, List.getElem_cons_succ, Act.put, List.setIfInBounds_toArray, List.set_cons_zero, List.set_cons_succ]
  refine wpAnyH_take (i := 10) (v := ?_) rfl (by kernel_rfl) (by kernel_rfl) (by kernel_rfl) (fun _ _ _ h => h) (Or.inl ⟨by rfl, ?_⟩) hS ?_
  rotate_left 1
  · intro w' hSw
    go_simp <;> with_reducible rfl
  try simp only [List.getElem_toArray, List.getElem_cons_zero, List.getElem_cons_succ, Act.put, List.setIfInBounds_toArray, List.set_cons_zero, List.set_cons_succ]
  refine wpAnyH_take (i := 11) (v := ?_) rfl (by kernel_rfl) (by kernel_rfl) (by kernel_rfl) (fun _ _ _ h => h) (Or.inl ⟨by rfl, ?_⟩) hS ?_
  rotate_left 1
  · intro w' hSw
    go_simp <;> with_reducible rfl
  try simp only [List.getElem_toArray, List.getElem_cons_zero, List.getElem_cons_succ, Act.put, List.setIfInBounds_toArray, List.set_cons_zero, List.set_cons_succ]
  refine wpAnyH_done (by kernel_rfl) ?_ _
  clear c0 c1 c2 c3 c4 c5 c6 c7
  obtain ⟨c0, c1, c2, c3, c4, c5, c6, c7⟩ := sb_of hx8
  go_wp2_with fail
  go_ret
  refine ⟨?_, hb8⟩
  show Ending.returned (Value.string _) = Ending.returned (Value.string _)
  congr 2
  apply Go.WideShapes.bytes_inj
  simp
set_option maxHeartbeats 2000000 in
theorem show_ask (h : 17 ≤ op ∧ op ≤ 27) : Calls Tryz.prog 36 #[.agg #[.int .u8 op, .bool nr, .int .i64 d, .int .i64 s, .bool u, .int .i64 o, .int .i64 m, .int .i64 z]] w fun e w' => e = .returned (.string ⟨(showI ⟨op, nr, d, s, u, o, m, z⟩).toArray⟩) ∧ Below w.heap.size w w' := by
  have n1 := (Below.refl w.heap.size w).alloc (Nat.le_refl _) (.cells #[.int .u8 op, .bool nr, .int .i64 d, .int .i64 s, .bool u, .int .i64 o, .int .i64 m, .int .i64 z] 40)
  have hx : Bk (w.alloc (.cells #[.int .u8 op, .bool nr, .int .i64 d, .int .i64 s, .bool u, .int .i64 o, .int .i64 m, .int .i64 z] 40)) w.heap.size 40 [.int .u8 op, .bool nr, .int .i64 d, .int .i64 s, .bool u, .int .i64 o, .int .i64 m, .int .i64 z] := Bk.new w _ _
  have hv1 := hv.below n1 hB
  have hit := itoa_any z hi.z.1 hi.z.2 _ hv1
  have hF : showI ⟨op, nr, d, s, u, o, m, z⟩ = firstS ⟨op, nr, d, s, u, o, m, z⟩ ++ 32 :: (regN d ++ 44 :: 32 :: (lastS ⟨op, nr, d, s, u, o, m, z⟩ ++ 44 :: 32 :: apartS o [])) := by
    unfold showI
    simp only [show op ≠ 28 by omega, show op ≠ 16 by omega, show op ≠ 14 by omega, show op ≠ 15 by omega, show op ≠ 13 by omega, show 17 ≤ op by omega, if_false, if_true]
  rw [hF]
  have lf := first_len ⟨op, nr, d, s, u, o, m, z⟩
  have lr : (regN d).length ≤ 22 := regN_len hi.d
  have ll : (lastS ⟨op, nr, d, s, u, o, m, z⟩).length ≤ 22 := by
    have a1 : (regN s).length ≤ 22 := regN_len hi.s
    have a2 : (Lib.itoa m).length ≤ 21 := Lib.itoa_length_le m hi.m.1 hi.m.2
    unfold lastS
    split <;> simp only <;> omega
  have lap : (apartS o []).length ≤ 22 := apart_len2 hi.o []
  have hfi := fun (W : World) (hW : Tv B W) (hWB : B ≤ W.heap.size) => first_any ⟨op, nr, d, s, u, o, m, z⟩ (.inr (by simp only; omega)) W hW hWB
  have hnm := fun (W : World) (hW : Tv B W) => name_any d hi.d W hW
  have hla := fun (W : World) (hW : Tv B W) (hWB : B ≤ W.heap.size) => last_any ⟨op, nr, d, s, u, o, m, z⟩ hi.m hi.s W hW hWB
  have hap := fun (W : World) (hW : Tv B W) => apart_any o hi.o [] (by decide) W hW
  clear hF
  unfold ivV at hfi hla
  generalize firstS ⟨op, nr, d, s, u, o, m, z⟩ = fi at *
  generalize lastS ⟨op, nr, d, s, u, o, m, z⟩ = la at *
  generalize apartS o [] = ap at *
  generalize regN d = rg at *
  have g1 : ¬ 9223372036854775807 < fi.length + 1 := by omega
  have g2 : ¬ 9223372036854775807 < fi.length + 1 + rg.length := by omega
  have g3 : ¬ 9223372036854775807 < fi.length + 1 + rg.length + 2 := by omega
  have g4 : ¬ 9223372036854775807 < fi.length + 1 + rg.length + 2 + la.length := by omega
  have g5 : ¬ 9223372036854775807 < 2 + ap.length := by omega
  have g6 : ¬ 9223372036854775807 < fi.length + 1 + rg.length + 2 + la.length + (2 + ap.length) := by omega
  have H := Lib.hid h
  clear h
  have d28 : decide (op = 28) = false := decide_eq_false (by have := H.out; omega)
  have e28 : (op == 28) = false := by have := H.out; simp; omega
  have d16 : decide (op = 16) = false := decide_eq_false (by have := H.out; omega)
  have e16 : (op == 16) = false := by have := H.out; simp; omega
  have d14 : decide (op = 14) = false := decide_eq_false (by have := H.out; omega)
  have e14 : (op == 14) = false := by have := H.out; simp; omega
  have d15 : decide (op = 15) = false := decide_eq_false (by have := H.out; omega)
  have e15 : (op == 15) = false := by have := H.out; simp; omega
  have d13 : decide (op = 13) = false := decide_eq_false (by have := H.out; omega)
  have e13 : (op == 13) = false := by have := H.out; simp; omega
  have d17 : decide ((17 : Int) ≤ op) = true := decide_eq_true (by have := H.out; omega)
  go_enter Tryz.func36, Tryz.ntmps36
  go_wp2_with fail
  (with_reducible refine hit.mono ?_)
  rintro _ w1 ⟨rfl, b1⟩
  have hx1 := hx.below b1 hx.lt
  have hbw := n1.trans (b1.mono n1.size)
  have hv2 := hv.below hbw hB
  obtain ⟨c0, c1, c2, c3, c4, c5, c6, c7⟩ := sb_of hx1
  clear hit hx b1 n1
  go_wp2_with fail
  have hdr := (Below.refl w1.heap.size w1).drew
  refine wp_region_held_drew (S := fun W => W.cell? ⟨w.heap.size, 0, none⟩ = some (.int .u8 op) ∧ W.cell? ⟨w.heap.size, 1, none⟩ = some (.bool nr) ∧ W.cell? ⟨w.heap.size, 2, none⟩ = some (.int .i64 d) ∧ W.cell? ⟨w.heap.size, 3, none⟩ = some (.int .i64 s) ∧ W.cell? ⟨w.heap.size, 4, none⟩ = some (.bool u) ∧ W.cell? ⟨w.heap.size, 5, none⟩ = some (.int .i64 o) ∧ W.cell? ⟨w.heap.size, 6, none⟩ = some (.int .i64 m) ∧ W.cell? ⟨w.heap.size, 7, none⟩ = some (.int .i64 z)) (by kernel_rfl) (sb_of (hx1.below hdr hx1.lt)) (fun hS => ?_)
  have hx5 := Bk.drew hx1
  have hb5 := hbw.drew
  have hv5 := hv.below hb5 hB
  refine wpAnyH_take (i := 0) (v := ?_) rfl (by kernel_rfl) (by kernel_rfl) (by kernel_rfl) (fun _ _ _ h => h) (Or.inl ⟨by rfl, ?_⟩) hS ?_
  rotate_left 1
  · intro w' hSw
    go_simp <;> with_reducible rfl
  try simp only [List.getElem_toArray, List.getElem_cons_zero, List.getElem_cons_succ, Act.put, List.setIfInBounds_toArray, List.set_cons_zero, List.set_cons_succ]
  refine wpAnyH_take (i := 3) (v := ?_) rfl (by kernel_rfl) (by kernel_rfl) (by kernel_rfl) (fun _ _ _ h => h) (Or.inl ⟨by rfl, ?_⟩) hS ?_
  rotate_left 1
  · intro w' hSw
    go_simp <;> with_reducible rfl
  try simp only [List.getElem_toArray, List.getElem_cons_zero, List.getElem_cons_succ, Act.put, List.setIfInBounds_toArray, List.set_cons_zero, List.set_cons_succ]
  refine wpAnyH_take (i := 4) (v := ?_) rfl (by kernel_rfl) (by kernel_rfl) (by kernel_rfl) (fun _ _ _ h => h) (Or.inl ⟨by rfl, ?_⟩) hS ?_
  rotate_left 1
  · intro w' hSw
    go_simp <;> with_reducible rfl
  try simp only [List.getElem_toArray, List.getElem_cons_zero, List.getElem_cons_succ, Act.put, List.setIfInBounds_toArray, List.set_cons_zero, List.set_cons_succ]
  refine wpAnyH_take (i := 8) (v := ?_) rfl (by kernel_rfl) (by kernel_rfl) (by kernel_rfl) (fun _ _ _ h => h) (Or.inl ⟨by rfl, ?_⟩) hS ?_
  rotate_left 1
  · intro w' hSw
    go_simp <;> with_reducible rfl
  try simp only [List.getElem_toArray, List.getElem_cons_zero, List.getElem_cons_succ, Act.put, List.setIfInBounds_toArray, List.set_cons_zero, List.set_cons_succ]
  refine wpAnyH_ready (rs := [1]) (by kernel_rfl) (by simp) (AllReadyH.cons rfl (fun K hK => ?_) AllReadyH.nil)
  go_simp
  (with_reducible refine (hfi _ hv5 (Nat.le_trans hB hb5.size)).mono ?_)
  rintro _ w6 ⟨rfl, y6⟩
  have hx6 := hx5.below y6 hx5.lt
  have hb6 := hb5.trans (y6.mono hb5.size)
  have hv6 := hv.below hb6 hB
  go_simp
  refine hK _ _ (sb_of hx6) (fun hS => ?_)
  clear hK K y6
  try simp only [List.getElem_toArray, List.getElem_cons_zero, List.getElem_cons_succ, Act.put, List.setIfInBounds_toArray, List.set_cons_zero, List.set_cons_succ]
  refine wpAnyH_take (i := 2) (v := ?_) rfl (by kernel_rfl) (by kernel_rfl) (by kernel_rfl) (fun _ _ _ h => h) (Or.inl ⟨by rfl, ?_⟩) hS ?_
  rotate_left 1
  · intro w' hSw
    go_simp <;> with_reducible rfl
  try simp only [List.getElem_toArray, List.getElem_cons_zero, List.getElem_cons_succ, Act.put, List.setIfInBounds_toArray, List.set_cons_zero, List.set_cons_succ]
  refine wpAnyH_ready (rs := [5]) (by kernel_rfl) (by simp) (AllReadyH.cons rfl (fun K hK => ?_) AllReadyH.nil)
  go_simp
  (with_reducible refine (hnm _ hv6).mono ?_)
  rintro _ w7 ⟨rfl, y7⟩
  have hx7 := hx6.below y7 hx6.lt
  have hb7 := hb6.trans (y7.mono hb6.size)
  have hv7 := hv.below hb7 hB
  go_simp
  refine hK _ _ (sb_of hx7) (fun hS => ?_)
  clear hK K y7
  try simp only [List.getElem_toArray, List.getElem_cons_zero, List.getElem_cons_succ, Act.put, List.setIfInBounds_toArray, List.set_cons_zero, List.set_cons_succ]
  refine wpAnyH_take (i := 6) (v := ?_) rfl (by kernel_rfl) (by kernel_rfl) (by kernel_rfl) (fun _ _ _ h => h) (Or.inl ⟨by rfl, ?_⟩) hS ?_
  rotate_left 1
  · intro w' hSw
    go_simp <;> with_reducible rfl
  try simp only [List.getElem_toArray, List.getElem_cons_zero, List.getElem_cons_succ, Act.put, List.setIfInBounds_toArray, List.set_cons_zero, List.set_cons_succ]
  refine wpAnyH_take (i := 7) (v := ?_) rfl (by kernel_rfl) (by kernel_rfl) (by kernel_rfl) (fun _ _ _ h => h) (Or.inl ⟨by rfl, ?_⟩) hS ?_
  rotate_left 1
  · intro w' hSw
    go_simp <;> with_reducible rfl
  try simp only [List.getElem_toArray, List.getElem_cons_zero, List.getElem_cons_succ, Act.put, List.setIfInBounds_toArray, List.set_cons_zero, List.set_cons_succ]
  refine wpAnyH_ready (rs := [9]) (by kernel_rfl) (by simp) (AllReadyH.cons rfl (fun K hK => ?_) AllReadyH.nil)
  go_simp
  (with_reducible refine (hla _ hv7 (Nat.le_trans hB hb7.size)).mono ?_)
  rintro _ w8 ⟨rfl, y8⟩
  have hx8 := hx7.below y8 hx7.lt
  have hb8 := hb7.trans (y8.mono hb7.size)
  have hv8 := hv.below hb8 hB
  go_simp
  refine hK _ _ (sb_of hx8) (fun hS => ?_)
  clear hK K y8
  try simp only [List.getElem_toArray, List.getElem_cons_zero, List.getElem_cons_succ, Act.put, List.setIfInBounds_toArray, List.set_cons_zero, List.set_cons_succ]
  refine wpAnyH_take (i := 10) (v := ?_) rfl (by kernel_rfl) (by kernel_rfl) (by kernel_rfl) (fun _ _ _ h => h) (Or.inl ⟨by rfl, ?_⟩) hS ?_
  rotate_left 1
  · intro w' hSw
    go_simp <;> with_reducible rfl
  try simp only [List.getElem_toArray, List.getElem_cons_zero, List.getElem_cons_succ, Act.put, List.setIfInBounds_toArray, List.set_cons_zero, List.set_cons_succ]
  refine wpAnyH_take (i := 11) (v := ?_) rfl (by kernel_rfl) (by kernel_rfl) (by kernel_rfl) (fun _ _ _ h => h) (Or.inl ⟨by rfl, ?_⟩) hS ?_
  rotate_left 1
  · intro w' hSw
    go_simp <;> with_reducible rfl
  try simp only [List.getElem_toArray, List.getElem_cons_zero, List.getElem_cons_succ, Act.put, List.setIfInBounds_toArray, List.set_cons_zero, List.set_cons_succ]
  refine wpAnyH_done (by kernel_rfl) ?_ _
  clear c0 c1 c2 c3 c4 c5 c6 c7
  obtain ⟨c0, c1, c2, c3, c4, c5, c6, c7⟩ := sb_of hx8
  go_wp2_with fail
  (with_reducible refine (hap w8 hv8).mono ?_)
  rintro _ w9 ⟨rfl, b9⟩
  have hb9 := hb8.trans (b9.mono hb8.size)
  go_wp2_with fail
  go_ret
  refine ⟨?_, hb9⟩
  show Ending.returned (Value.string _) = Ending.returned (Value.string _)
  congr 2
  apply Go.WideShapes.bytes_inj
  simp
end
end Go.Proofs.YtjebjninlejoeaaGreatDoor
namespace Go.Proofs.YtjebjninlejoeaaGreatDoor
open Go.RowKit Go.Maps Go.ChangeMaps
set_option linter.unusedVariables false
set_option linter.unusedSimpArgs false
set_option linter.unusedSectionVars false
set_option maxRecDepth 100000

theorem i64_s' : I64 0 := by unfold I64; omega
theorem i64_in {n a b : Int} (h : inI n a b = true) (ha : -2147483648 ≤ a) (hb : b ≤ 2147483647) : I64 n := by
  have := inI_iff.1 h
  unfold I64
  omega
theorem sec_ok {i : IV} (h : secR i = true) : I64 i.src ∧ I64 i.imm := by
  unfold secR at h
  cases hu : i.useImm with
  | true =>
    rw [hu] at h
    simp only [if_true, Bool.and_eq_true, decide_eq_true_eq] at h
    exact ⟨by rw [h.1]; exact i64_s' , i64_in h.2 (by decide) (by decide)⟩
  | false =>
    rw [hu] at h
    simp only [Bool.false_eq_true, if_false, Bool.and_eq_true, decide_eq_true_eq] at h
    exact ⟨i64_in h.1 (by decide) (by decide), by rw [h.2]; exact i64_s'⟩
theorem right_ok {i : IV} (h : rightP i = true) : IvOk i ∧ ((1 ≤ i.op ∧ i.op ≤ 12) ∨ i.op = 13 ∨ i.op = 14 ∨ i.op = 15 ∨ i.op = 16 ∨ (17 ≤ i.op ∧ i.op ≤ 27) ∨ i.op = 28) := by
  unfold rightP at h
  split at h
  · next h1 =>
    simp only [Bool.and_eq_true, decide_eq_true_eq] at h
    obtain ⟨⟨⟨hd, hs⟩, ho⟩, hz⟩ := h
    have := sec_ok hs
    exact ⟨⟨i64_in hd (by decide) (by decide), this.1, by omega, this.2, by rw [hz]; exact i64_s'⟩, .inl h1⟩
  · split at h
    · next h0 h1 =>
      simp only [Bool.and_eq_true, decide_eq_true_eq] at h
      obtain ⟨hd, he⟩ := h
      have e1 := congrArg IV.src he
      have e2 := congrArg IV.off he
      have e3 := congrArg IV.imm he
      have e4 := congrArg IV.size he
      simp only [iv0] at e1 e2 e3 e4
      exact ⟨⟨i64_in hd (by decide) (by decide), by rw [e1]; exact i64_s', by omega, by rw [e3]; exact i64_s', by rw [e4]; exact i64_s'⟩, .inr (.inl h1)⟩
    · split at h
      · next h0 h00 h1 =>
        simp only [Bool.and_eq_true, decide_eq_true_eq] at h
        obtain ⟨⟨⟨⟨hd, hs⟩, hf⟩, hz⟩, he⟩ := h
        have e3 := congrArg IV.imm he
        simp only [iv0] at e3
        have hf := inI_iff.1 hf
        have hz := size_eq hz
        exact ⟨⟨i64_in hd (by decide) (by decide), i64_in hs (by decide) (by decide), by omega, by rw [e3]; exact i64_s', by unfold I64; omega⟩, .inr (.inr (.inl h1))⟩
      · split at h
        · next h0 h00 h000 h1 =>
          simp only [Bool.and_eq_true, decide_eq_true_eq, Bool.not_eq_true'] at h
          obtain ⟨⟨⟨⟨hd, hf⟩, hz⟩, hs⟩, he⟩ := h
          have := sec_ok hs
          have hf := inI_iff.1 hf
          have hz := size_eq hz
          exact ⟨⟨i64_in hd (by decide) (by decide), this.1, by omega, this.2, by unfold I64; omega⟩, .inr (.inr (.inr (.inl h1)))⟩
        · split at h
          · next h0 h00 h000 h0000 h1 =>
            simp only [Bool.and_eq_true, decide_eq_true_eq] at h
            obtain ⟨hf, he⟩ := h
            have e0 := congrArg IV.dst he
            have e1 := congrArg IV.src he
            have e3 := congrArg IV.imm he
            have e4 := congrArg IV.size he
            simp only [iv0] at e0 e1 e3 e4
            have hf := inI_iff.1 hf
            exact ⟨⟨by rw [e0]; exact i64_s', by rw [e1]; exact i64_s', by omega, by rw [e3]; exact i64_s', by rw [e4]; exact i64_s'⟩, .inr (.inr (.inr (.inr (.inl h1))))⟩
          · split at h
            · next h0 h00 h000 h0000 h5 h1 =>
              simp only [Bool.and_eq_true, decide_eq_true_eq] at h
              obtain ⟨⟨⟨hd, hf⟩, hs⟩, hz⟩ := h
              have := sec_ok hs
              have hf := inI_iff.1 hf
              exact ⟨⟨i64_in hd (by decide) (by decide), this.1, by omega, this.2, by rw [hz]; exact i64_s'⟩, .inr (.inr (.inr (.inr (.inr (.inl h1)))))⟩
            · have h := of_decide_eq_true h
              rw [h]
              exact ⟨⟨i64_s', i64_s', by simp [iv0], i64_s', i64_s'⟩, .inr (.inr (.inr (.inr (.inr (.inr rfl)))))⟩
theorem show_any {B : Nat} (i : IV) (h : rightP i = true) (w : World) (hv : Tv B w) (hB : B ≤ w.heap.size) : Calls Tryz.prog 36 #[.agg (ivV i).toArray] w fun e w' => e = .returned (.string ⟨(showI i).toArray⟩) ∧ Below w.heap.size w w' := by
  obtain ⟨hi, ho⟩ := right_ok h
  obtain ⟨op, nr, d, s, u, o, m, z⟩ := i
  show Calls Tryz.prog 36 #[.agg #[.int .u8 op, .bool nr, .int .i64 d, .int .i64 s, .bool u, .int .i64 o, .int .i64 m, .int .i64 z]] w _
  rcases ho with ho | ho | ho | ho | ho | ho | ho
  · exact show_alu op nr d s u o m z hi w hv hB ho
  · exact show_neg op nr d s u o m z hi w hv hB ho
  · exact show_load op nr d s u o m z hi w hv hB ho
  · exact show_put op nr d s u o m z hi w hv hB ho
  · exact show_jump op nr d s u o m z hi w hv hB ho
  · exact show_ask op nr d s u o m z hi w hv hB ho
  · exact show_exit op nr d s u o m z hi w hv hB ho
end Go.Proofs.YtjebjninlejoeaaGreatDoor
