/- The chapter's examples: over this seat's program. -/
import Derived.Test.YtdhfdlelnkoomaaDoorTRText
namespace Go.Proofs.YtdhfdlelnkoomaaDoor
open Go.RowKit
set_option linter.unusedVariables false
set_option maxRecDepth 100000

def setI (n : Int) : Ins := { op := 1, what := 0, nar := false, d := 0, a := 0, b := 0, n := n, size := 0, «to» := 0 }
def gotoI (t : Int) : Ins := { op := 7, what := 0, nar := false, d := 0, a := 0, b := 0, n := 0, size := 0, «to» := t }
theorem Kp.alloc {B N : Nat} {f : Ins} {W0 w : World} (h : Kp B N f W0 w) (o : Obj) : Kp B N f W0 (w.alloc o) := h.step ((Below.refl _ _).alloc (Nat.le_refl _) o)
theorem okSE : ∀ f ∈ [setI 7, endI 0], InsOk f := by
  intro f hf
  simp at hf
  rcases hf with rfl | rfl
  · exact ⟨by decide, by decide, by decide⟩
  · exact okE 0
theorem itoa_one (n : Nat) (h : n < 10) : Lib.itoa (n : Int) = [UInt8.ofNat (48 + n)] := by rw [Lib.itoa_nonneg, Lib.decDigits_one h]
theorem aw1 : textP [setI 7, endI 0] = [48, 58, 32, 114, 48, 32, 61, 32, 55, 10, 49, 58, 32, 101, 110, 100, 32, 114, 48, 10] := by
  have h0 := itoa_one 0 (by decide)
  have h1 := itoa_one 1 (by decide)
  have h7 := Lib.decDigits_one (i := 7) (by decide)
  rw [textP, if_pos (by decide)]
  have e : textUp [setI 7, endI 0] [setI 7, endI 0].length = (((Lib.itoa (0 : Nat) ++ [58, 32]) ++ ([rT (0 : Nat), eqT, Lib.decDigits 7] : List (List UInt8)).flatten) ++ [10]) ++ (((Lib.itoa (1 : Nat) ++ [58, 32]) ++ ([[101, 110, 100, 32], rT (0 : Nat)] : List (List UInt8)).flatten) ++ [10]) := by
    rw [show [setI 7, endI 0].length = 0 + 1 + 1 from rfl, textUp_succ, textUp_succ]
    rfl
  rw [e, h7, rT, h0, h1]
  rfl
theorem aw2 : rightP [endI 3] = true := by decide
theorem aw3 : rightP [gotoI 1] = false := by decide
theorem aw4 : rightP [setI 7, gotoI 0, endI 0] = false := by decide
theorem aw5 : rightP [] = false := by decide
theorem end_any (a : Int) (w : World) : Calls Tryd.prog 14 #[.int .i64 a] w fun e w' => e = .returned (insA (endI a)) ∧ Below w.heap.size w w' := by
  go_enter Tryd.func14, Tryd.ntmps14
  go_wp2_with fail
  exact bodyPost_ret (v := insA (endI a)) (by simp [results, Tryd.results14, go_sem, insA, insV, endI]) rfl ⟨rfl, (Below.refl _ _).alloc (Nat.le_refl _) _⟩
set_option linter.unusedSimpArgs false in
set_option maxHeartbeats 4000000 in
theorem awake_any (w : World) (ht : Tb w.heap.size w) : Calls Tryd.prog 6 #[] w fun e w' => e = .returned (.bool true) ∧ Below w.heap.size w w' := by
  obtain ⟨w0, e0, HK, hz⟩ := Kp.box (setI 7) ht (Nat.le_refl _)
  have HK0 := Lib.hid HK.out.drew
  have hcs := HK.out.cs
  simp only [setI] at hcs
  obtain ⟨c0, c1, c2, c3, c4, c5, c6, c7, c8⟩ := hcs
  clear ht
  simp only [setI, insV] at e0
  have E0 := Lib.hid e0
  clear e0 c0 c1 c2 c3 c4 c5 c6 c7 c8
  go_enter Tryd.func6, Tryd.ntmps6
  go_wp2_with fail
  rw [E0.out]
  refine wp_region_held_drew (S := fun w' => w'.cell? ⟨w.heap.size, 0, none⟩ = some (.int .u8 1) ∧ w'.cell? ⟨w.heap.size, 1, none⟩ = some (.int .u8 0) ∧ w'.cell? ⟨w.heap.size, 2, none⟩ = some (.bool false) ∧ w'.cell? ⟨w.heap.size, 3, none⟩ = some (.int .i64 0) ∧ w'.cell? ⟨w.heap.size, 4, none⟩ = some (.int .i64 0) ∧ w'.cell? ⟨w.heap.size, 5, none⟩ = some (.int .i64 0) ∧ w'.cell? ⟨w.heap.size, 6, none⟩ = some (.int .u64 7) ∧ w'.cell? ⟨w.heap.size, 7, none⟩ = some (.int .i64 0) ∧ w'.cell? ⟨w.heap.size, 8, none⟩ = some (.int .i64 0)) (by kernel_rfl) (Kp.cs HK0.out) (fun hS => ?_)
  refine wpAnyH_take (i := 0) (v := ?_) rfl (by kernel_rfl) (by kernel_rfl) (by kernel_rfl) (fun _ _ _ h => h) (Or.inl ⟨by rfl, ?_⟩) hS ?_
  rotate_left 1
  · intro w' hSw
    go_simp <;> with_reducible rfl
  try simp only [List.getElem_toArray, List.getElem_cons_zero, List.getElem_cons_succ, Act.put, List.setIfInBounds_toArray, List.set_cons_zero, List.set_cons_succ]
  refine wpAnyH_ready (rs := [1]) (by kernel_rfl) (by simp) (AllReadyH.cons rfl (fun K hK => ?_) AllReadyH.nil)
  go_simp
  refine (end_any 0 w0.drew).mono ?_
  rintro _ w1 ⟨rfl, hb'⟩
  have HK1 := Lib.hid (Kp.step HK0.out hb')
  clear hb'
  go_simp
  refine hK.out _ _ (Kp.cs HK1.out) (fun hS => ?_)
  clear hK K
  try simp only [List.getElem_toArray, List.getElem_cons_zero, List.getElem_cons_succ, Act.put, List.setIfInBounds_toArray, List.set_cons_zero, List.set_cons_succ]
  refine wpAnyH_ready (rs := [2]) (by kernel_rfl) (by simp) (AllReadyH.cons rfl (fun K hK => ?_) AllReadyH.nil)
  go_simp
  have HK2 := Lib.hid (Kp.alloc HK1.out (.cells (flatV [setI 7, endI 0] ++ []).toArray 35))
  refine hK.out _ _ (Kp.cs HK2.out) (fun hS => ?_)
  clear hK K
  try simp only [List.getElem_toArray, List.getElem_cons_zero, List.getElem_cons_succ, Act.put, List.setIfInBounds_toArray, List.set_cons_zero, List.set_cons_succ]
  refine wpAnyH_ready (rs := [3]) (by kernel_rfl) (by simp) (AllReadyH.cons rfl (fun K hK => ?_) AllReadyH.nil)
  go_simp
  refine (text_any (some ⟨w1.heap.size, 0, none⟩) 2 [setI 7, endI 0] _ (inss_bk (ext := []) (Bk.new w1 35 (flatV [setI 7, endI 0] ++ [])) (by decide) (by decide)) okSE (HK2.out.tb.mono HK2.out.hB)).mono ?_
  rintro _ w2 ⟨rfl, hb'⟩
  rw [aw1]
  have HK3 := Lib.hid (Kp.step HK2.out hb')
  clear hb'
  go_simp
  refine hK.out _ _ (Kp.cs HK3.out) (fun hS => ?_)
  clear hK K
  try simp only [List.getElem_toArray, List.getElem_cons_zero, List.getElem_cons_succ, Act.put, List.setIfInBounds_toArray, List.set_cons_zero, List.set_cons_succ]
  refine wpAnyH_take (i := 4) (v := ?_) rfl (by kernel_rfl) (by kernel_rfl) (by kernel_rfl) (fun _ _ _ h => h) (Or.inl ⟨by rfl, ?_⟩) hS ?_
  rotate_left 1
  · intro w' hSw
    go_simp <;> with_reducible rfl
  try simp only [List.getElem_toArray, List.getElem_cons_zero, List.getElem_cons_succ, Act.put, List.setIfInBounds_toArray, List.set_cons_zero, List.set_cons_succ]
  refine wpAnyH_take (i := 5) (v := ?_) rfl (by kernel_rfl) (by kernel_rfl) (by kernel_rfl) (fun _ _ _ h => h) (Or.inl ⟨by rfl, ?_⟩) hS ?_
  rotate_left 1
  · intro w' hSw
    go_simp <;> with_reducible rfl
  try simp only [List.getElem_toArray, List.getElem_cons_zero, List.getElem_cons_succ, Act.put, List.setIfInBounds_toArray, List.set_cons_zero, List.set_cons_succ]
  refine wpAnyH_ready (rs := [6]) (by kernel_rfl) (by simp) (AllReadyH.cons rfl (fun K hK => ?_) AllReadyH.nil)
  go_simp
  refine (end_any 3 w2).mono ?_
  rintro _ w3 ⟨rfl, hb'⟩
  have HK4 := Lib.hid (Kp.step HK3.out hb')
  clear hb'
  go_simp
  refine hK.out _ _ (Kp.cs HK4.out) (fun hS => ?_)
  clear hK K
  try simp only [List.getElem_toArray, List.getElem_cons_zero, List.getElem_cons_succ, Act.put, List.setIfInBounds_toArray, List.set_cons_zero, List.set_cons_succ]
  refine wpAnyH_ready (rs := [7]) (by kernel_rfl) (by simp) (AllReadyH.cons rfl (fun K hK => ?_) AllReadyH.nil)
  go_simp
  have HK5 := Lib.hid (Kp.alloc HK4.out (.cells (flatV [endI 3] ++ []).toArray 35))
  refine hK.out _ _ (Kp.cs HK5.out) (fun hS => ?_)
  clear hK K
  try simp only [List.getElem_toArray, List.getElem_cons_zero, List.getElem_cons_succ, Act.put, List.setIfInBounds_toArray, List.set_cons_zero, List.set_cons_succ]
  refine wpAnyH_ready (rs := [8]) (by kernel_rfl) (by simp) (AllReadyH.cons rfl (fun K hK => ?_) AllReadyH.nil)
  go_simp
  refine (right_any (some ⟨w3.heap.size, 0, none⟩) 1 [endI 3] _ (inss_bk (ext := []) (Bk.new w3 35 (flatV [endI 3] ++ [])) (by decide) (by decide))).mono ?_
  rintro _ w4 ⟨rfl, hb'⟩
  rw [aw2]
  have HK6 := Lib.hid (Kp.step HK5.out hb')
  clear hb'
  go_simp
  refine hK.out _ _ (Kp.cs HK6.out) (fun hS => ?_)
  clear hK K
  try simp only [List.getElem_toArray, List.getElem_cons_zero, List.getElem_cons_succ, Act.put, List.setIfInBounds_toArray, List.set_cons_zero, List.set_cons_succ]
  refine wpAnyH_take (i := 9) (v := ?_) rfl (by kernel_rfl) (by kernel_rfl) (by kernel_rfl) (fun _ _ _ h => h) (Or.inl ⟨by rfl, ?_⟩) hS ?_
  rotate_left 1
  · intro w' hSw
    go_simp <;> with_reducible rfl
  try simp only [List.getElem_toArray, List.getElem_cons_zero, List.getElem_cons_succ, Act.put, List.setIfInBounds_toArray, List.set_cons_zero, List.set_cons_succ]
  refine wpAnyH_take (i := 10) (v := ?_) rfl (by kernel_rfl) (by kernel_rfl) (by kernel_rfl) (fun _ _ _ h => h) (Or.inl ⟨by rfl, ?_⟩) hS ?_
  rotate_left 1
  · intro w' hSw
    go_simp <;> with_reducible rfl
  try simp only [List.getElem_toArray, List.getElem_cons_zero, List.getElem_cons_succ, Act.put, List.setIfInBounds_toArray, List.set_cons_zero, List.set_cons_succ]
  refine wpAnyH_take (i := 11) (v := ?_) rfl (by kernel_rfl) (by kernel_rfl) (by kernel_rfl) (fun _ _ _ h => h) (Or.inl ⟨by go_simp, ?_⟩) hS ?_
  rotate_left 1
  · intro w' hSw
    go_simp <;> with_reducible rfl
  try simp only [List.getElem_toArray, List.getElem_cons_zero, List.getElem_cons_succ, Act.put, List.setIfInBounds_toArray, List.set_cons_zero, List.set_cons_succ]
  refine wpAnyH_ready (rs := [12]) (by kernel_rfl) (by simp) (AllReadyH.cons rfl (fun K hK => ?_) AllReadyH.nil)
  go_simp
  have HK7 := Lib.hid (Kp.alloc HK6.out (.cells (flatV [gotoI 1] ++ []).toArray 35))
  refine hK.out _ _ (Kp.cs HK7.out) (fun hS => ?_)
  clear hK K
  try simp only [List.getElem_toArray, List.getElem_cons_zero, List.getElem_cons_succ, Act.put, List.setIfInBounds_toArray, List.set_cons_zero, List.set_cons_succ]
  refine wpAnyH_ready (rs := [13]) (by kernel_rfl) (by simp) (AllReadyH.cons rfl (fun K hK => ?_) AllReadyH.nil)
  go_simp
  refine (right_any (some ⟨w4.heap.size, 0, none⟩) 1 [gotoI 1] _ (inss_bk (ext := []) (Bk.new w4 35 (flatV [gotoI 1] ++ [])) (by decide) (by decide))).mono ?_
  rintro _ w5 ⟨rfl, hb'⟩
  rw [aw3]
  have HK8 := Lib.hid (Kp.step HK7.out hb')
  clear hb'
  go_simp
  refine hK.out _ _ (Kp.cs HK8.out) (fun hS => ?_)
  clear hK K
  try simp only [List.getElem_toArray, List.getElem_cons_zero, List.getElem_cons_succ, Act.put, List.setIfInBounds_toArray, List.set_cons_zero, List.set_cons_succ]
  refine wpAnyH_take (i := 14) (v := ?_) rfl (by kernel_rfl) (by kernel_rfl) (by kernel_rfl) (fun _ _ _ h => h) (Or.inl ⟨by go_simp, ?_⟩) hS ?_
  rotate_left 1
  · intro w' hSw
    go_simp <;> with_reducible rfl
  try simp only [List.getElem_toArray, List.getElem_cons_zero, List.getElem_cons_succ, Act.put, List.setIfInBounds_toArray, List.set_cons_zero, List.set_cons_succ]
  refine wpAnyH_take (i := 15) (v := ?_) rfl (by kernel_rfl) (by kernel_rfl) (by kernel_rfl) (fun _ _ _ h => h) (Or.inl ⟨by rfl, ?_⟩) hS ?_
  rotate_left 1
  · intro w' hSw
    go_simp <;> with_reducible rfl
  try simp only [List.getElem_toArray, List.getElem_cons_zero, List.getElem_cons_succ, Act.put, List.setIfInBounds_toArray, List.set_cons_zero, List.set_cons_succ]
  refine wpAnyH_take (i := 16) (v := ?_) rfl (by kernel_rfl) (by kernel_rfl) (by kernel_rfl) (fun _ _ _ h => h) (Or.inl ⟨by rfl, ?_⟩) hS ?_
  rotate_left 1
  · intro w' hSw
    go_simp <;> with_reducible rfl
  try simp only [List.getElem_toArray, List.getElem_cons_zero, List.getElem_cons_succ, Act.put, List.setIfInBounds_toArray, List.set_cons_zero, List.set_cons_succ]
  refine wpAnyH_take (i := 17) (v := ?_) rfl (by kernel_rfl) (by kernel_rfl) (by kernel_rfl) (fun _ _ _ h => h) (Or.inl ⟨by go_simp, ?_⟩) hS ?_
  rotate_left 1
  · intro w' hSw
    go_simp <;> with_reducible rfl
  try simp only [List.getElem_toArray, List.getElem_cons_zero, List.getElem_cons_succ, Act.put, List.setIfInBounds_toArray, List.set_cons_zero, List.set_cons_succ]
  refine wpAnyH_take (i := 18) (v := ?_) rfl (by kernel_rfl) (by kernel_rfl) (by kernel_rfl) (fun _ _ _ h => h) (Or.inl ⟨by go_simp, ?_⟩) hS ?_
  rotate_left 1
  · intro w' hSw
    go_simp <;> with_reducible rfl
  try simp only [List.getElem_toArray, List.getElem_cons_zero, List.getElem_cons_succ, Act.put, List.setIfInBounds_toArray, List.set_cons_zero, List.set_cons_succ]
  refine wpAnyH_ready (rs := [19]) (by kernel_rfl) (by simp) (AllReadyH.cons rfl (fun K hK => ?_) AllReadyH.nil)
  go_simp
  refine (end_any 0 w5).mono ?_
  rintro _ w6 ⟨rfl, hb'⟩
  have HK9 := Lib.hid (Kp.step HK8.out hb')
  clear hb'
  go_simp
  refine hK.out _ _ (Kp.cs HK9.out) (fun hS => ?_)
  clear hK K
  try simp only [List.getElem_toArray, List.getElem_cons_zero, List.getElem_cons_succ, Act.put, List.setIfInBounds_toArray, List.set_cons_zero, List.set_cons_succ]
  refine wpAnyH_ready (rs := [20]) (by kernel_rfl) (by simp) (AllReadyH.cons rfl (fun K hK => ?_) AllReadyH.nil)
  go_simp
  have HK10 := Lib.hid (Kp.alloc HK9.out (.cells (flatV [setI 7, gotoI 0, endI 0] ++ []).toArray 35))
  refine hK.out _ _ (Kp.cs HK10.out) (fun hS => ?_)
  clear hK K
  try simp only [List.getElem_toArray, List.getElem_cons_zero, List.getElem_cons_succ, Act.put, List.setIfInBounds_toArray, List.set_cons_zero, List.set_cons_succ]
  refine wpAnyH_ready (rs := [21]) (by kernel_rfl) (by simp) (AllReadyH.cons rfl (fun K hK => ?_) AllReadyH.nil)
  go_simp
  refine (right_any (some ⟨w6.heap.size, 0, none⟩) 3 [setI 7, gotoI 0, endI 0] _ (inss_bk (ext := []) (Bk.new w6 35 (flatV [setI 7, gotoI 0, endI 0] ++ [])) (by decide) (by decide))).mono ?_
  rintro _ w7 ⟨rfl, hb'⟩
  rw [aw4]
  have HK11 := Lib.hid (Kp.step HK10.out hb')
  clear hb'
  go_simp
  refine hK.out _ _ (Kp.cs HK11.out) (fun hS => ?_)
  clear hK K
  try simp only [List.getElem_toArray, List.getElem_cons_zero, List.getElem_cons_succ, Act.put, List.setIfInBounds_toArray, List.set_cons_zero, List.set_cons_succ]
  refine wpAnyH_take (i := 22) (v := ?_) rfl (by kernel_rfl) (by kernel_rfl) (by kernel_rfl) (fun _ _ _ h => h) (Or.inl ⟨by go_simp, ?_⟩) hS ?_
  rotate_left 1
  · intro w' hSw
    go_simp <;> with_reducible rfl
  try simp only [List.getElem_toArray, List.getElem_cons_zero, List.getElem_cons_succ, Act.put, List.setIfInBounds_toArray, List.set_cons_zero, List.set_cons_succ]
  refine wpAnyH_take (i := 23) (v := ?_) rfl (by kernel_rfl) (by kernel_rfl) (by kernel_rfl) (fun _ _ _ h => h) (Or.inl ⟨by rfl, ?_⟩) hS ?_
  rotate_left 1
  · intro w' hSw
    go_simp <;> with_reducible rfl
  try simp only [List.getElem_toArray, List.getElem_cons_zero, List.getElem_cons_succ, Act.put, List.setIfInBounds_toArray, List.set_cons_zero, List.set_cons_succ]
  refine wpAnyH_take (i := 24) (v := ?_) rfl (by kernel_rfl) (by kernel_rfl) (by kernel_rfl) (fun _ _ _ h => h) (Or.inl ⟨by rfl, ?_⟩) hS ?_
  rotate_left 1
  · intro w' hSw
    go_simp <;> with_reducible rfl
  try simp only [List.getElem_toArray, List.getElem_cons_zero, List.getElem_cons_succ, Act.put, List.setIfInBounds_toArray, List.set_cons_zero, List.set_cons_succ]
  refine wpAnyH_ready (rs := [25]) (by kernel_rfl) (by simp) (AllReadyH.cons rfl (fun K hK => ?_) AllReadyH.nil)
  go_simp
  refine (right_any none 0 [] w7 (inss_nil _)).mono ?_
  rintro _ w8 ⟨rfl, hb'⟩
  rw [aw5]
  have HK12 := Lib.hid (Kp.step HK11.out hb')
  clear hb'
  go_simp
  refine hK.out _ _ (Kp.cs HK12.out) (fun hS => ?_)
  clear hK K
  try simp only [List.getElem_toArray, List.getElem_cons_zero, List.getElem_cons_succ, Act.put, List.setIfInBounds_toArray, List.set_cons_zero, List.set_cons_succ]
  refine wpAnyH_take (i := 26) (v := ?_) rfl (by kernel_rfl) (by kernel_rfl) (by kernel_rfl) (fun _ _ _ h => h) (Or.inl ⟨by go_simp, ?_⟩) hS ?_
  rotate_left 1
  · intro w' hSw
    go_simp <;> with_reducible rfl
  try simp only [List.getElem_toArray, List.getElem_cons_zero, List.getElem_cons_succ, Act.put, List.setIfInBounds_toArray, List.set_cons_zero, List.set_cons_succ]
  refine wpAnyH_take (i := 27) (v := ?_) rfl (by kernel_rfl) (by kernel_rfl) (by kernel_rfl) (fun _ _ _ h => h) (Or.inl ⟨by rfl, ?_⟩) hS ?_
  rotate_left 1
  · intro w' hSw
    go_simp <;> with_reducible rfl
  try simp only [List.getElem_toArray, List.getElem_cons_zero, List.getElem_cons_succ, Act.put, List.setIfInBounds_toArray, List.set_cons_zero, List.set_cons_succ]
  refine wpAnyH_take (i := 28) (v := ?_) rfl (by kernel_rfl) (by kernel_rfl) (by kernel_rfl) (fun _ _ _ h => h) (Or.inl ⟨by rfl, ?_⟩) hS ?_
  rotate_left 1
  · intro w' hSw
    go_simp <;> with_reducible rfl
  try simp only [List.getElem_toArray, List.getElem_cons_zero, List.getElem_cons_succ, Act.put, List.setIfInBounds_toArray, List.set_cons_zero, List.set_cons_succ]
  refine wpAnyH_done (by kernel_rfl) ?_ _
  go_wp2_with fail
  go_ret
  exact ⟨rfl, HK12.out.below⟩
end Go.Proofs.YtdhfdlelnkoomaaDoor
