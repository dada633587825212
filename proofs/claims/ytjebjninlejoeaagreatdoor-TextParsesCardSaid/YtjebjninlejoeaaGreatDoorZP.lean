/- text, the document's walk: an instruction's line. text, the document's walk: an instruction's line, whole. text, the document's walk: Show. -/
import Derived.Lib.AppendStr
import Derived.Lib.BufferRead
import Derived.Test.YtjebjninlejoeaaGreatDoorZO
import Derived.Test.YtjebjninlejoeaaGreatDoorZK
namespace Go.Proofs.YtjebjninlejoeaaGreatDoor
open Go.RowKit Go.Maps Go.ChangeMaps
set_option linter.unusedVariables false
set_option linter.unusedSimpArgs false
set_option linter.unusedSectionVars false
set_option maxRecDepth 100000

theorem rname_any {B : Nat} (n : Int) (hn : I64 n) (w : World) (hv : Tv B w) : Calls Tryz.prog 113 #[.int .i64 n] w fun e w' => e = .returned (.string ⟨(regN n).toArray⟩) ∧ Below w.heap.size w w' := by
  have hcon := itoa_any n hn.1 hn.2 w hv
  have hl := Lib.itoa_length_le n hn.1 hn.2
  have q1 : ¬ 9223372036854775807 < 1 + (Lib.itoa n).length := by omega
  have hc : ((⟨#[114]⟩ : ByteArray) ++ ⟨(Lib.itoa n).toArray⟩) = ⟨(regN n).toArray⟩ := cat_is [114] (Lib.itoa n)
  go_enter Tryz.func113, Tryz.ntmps113
  go_wp2_with fail
  (with_reducible refine hcon.mono ?_)
  rintro _ w1 ⟨rfl, b1⟩
  go_wp2_with fail
  go_ret
  exact ⟨rfl, b1⟩
theorem apart0_neg {n : Int} (h : n < 0) : apartS n [] = Lib.itoa n := by
  unfold apartS
  rw [if_pos h, itoa_minus h, itoa_pos (by omega)]
  simp
theorem apart0_pos {n : Int} (h : ¬ n < 0) : apartS n [] = 43 :: Lib.itoa n := by
  unfold apartS
  rw [if_neg h]
  rfl
theorem rfarS_any {B : Nat} (n : Int) (hn : -9223372036854775807 ≤ n ∧ n ≤ 9223372036854775807) (w : World) (hv : Tv B w) : Calls Tryz.prog 112 #[.int .i64 n] w fun e w' => e = .returned (.string ⟨(apartS n []).toArray⟩) ∧ Below w.heap.size w w' := by
  have hcon := itoa_any n (by omega) (by omega) w hv
  have hl := Lib.itoa_length_le n (by omega) (by omega)
  by_cases h0 : n < 0
  · have d1 : decide (n < 0) = true := decide_eq_true h0
    rw [apart0_neg h0]
    go_enter Tryz.func112, Tryz.ntmps112
    go_wp2_with fail
    (with_reducible refine hcon.mono ?_)
    rintro _ w1 ⟨rfl, b1⟩
    go_wp2_with fail
    go_ret
    exact ⟨rfl, b1⟩
  · have d1 : decide (n < 0) = false := decide_eq_false h0
    rw [apart0_pos h0]
    have q1 : ¬ 9223372036854775807 < 1 + (Lib.itoa n).length := by omega
    have hc : ((⟨#[43]⟩ : ByteArray) ++ ⟨(Lib.itoa n).toArray⟩) = ⟨(43 :: Lib.itoa n).toArray⟩ := cat_is [43] (Lib.itoa n)
    go_enter Tryz.func112, Tryz.ntmps112
    go_wp2_with fail
    (with_reducible refine hcon.mono ?_)
    rintro _ w1 ⟨rfl, b1⟩
    go_wp2_with fail
    go_ret
    exact ⟨rfl, b1⟩
theorem rcellS_any {B : Nat} (n off : Int) (hn : I64 n) (ho : -9223372036854775807 ≤ off ∧ off ≤ 9223372036854775807) (w : World) (hv : Tv B w) (hB : B ≤ w.heap.size) : Calls Tryz.prog 114 #[.int .i64 n, .int .i64 off] w fun e w' => e = .returned (.string ⟨(cellS n off).toArray⟩) ∧ Below w.heap.size w w' := by
  have hnm := rname_any n hn w hv
  have lr : (regN n).length ≤ 22 := regN_len hn
  unfold cellS apartS
  generalize regN n = rg at *
  by_cases h0 : off < 0
  · have d1 : decide (off < 0) = true := decide_eq_true h0
    have hcon := fun (W : World) (hW : Tv B W) => itoa_any (-off) (by omega) (by omega) W hW
    have hl := Lib.itoa_length_le (-off) (by omega) (by omega)
    rw [if_pos h0]
    generalize Lib.itoa (-off) = it at *
    have q1 : ¬ 9223372036854775807 < 1 + rg.length := by omega
    have q2 : ¬ 9223372036854775807 < 1 + rg.length + 3 := by omega
    have q3 : ¬ 9223372036854775807 < 1 + rg.length + 3 + it.length := by omega
    have q4 : ¬ 9223372036854775807 < 1 + rg.length + 3 + it.length + 1 := by omega
    go_enter Tryz.func114, Tryz.ntmps114
    go_wp2_with fail
    (with_reducible refine hnm.mono ?_)
    rintro _ w1 ⟨rfl, b1⟩
    have hv1 := hv.below b1 hB
    go_wp2_with fail
    (with_reducible refine (hcon w1 hv1).mono ?_)
    rintro _ w2 ⟨rfl, b2⟩
    go_wp2_with fail
    go_ret
    refine ⟨?_, b1.trans (b2.mono b1.size)⟩
    show Ending.returned (Value.string _) = Ending.returned (Value.string _)
    congr 2
    apply Go.WideShapes.bytes_inj
    simp
  · have d1 : decide (off < 0) = false := decide_eq_false h0
    have hcon := fun (W : World) (hW : Tv B W) => itoa_any off (by omega) (by omega) W hW
    have hl := Lib.itoa_length_le off (by omega) (by omega)
    rw [if_neg h0]
    generalize Lib.itoa off = it at *
    have q1 : ¬ 9223372036854775807 < 1 + rg.length := by omega
    have q2 : ¬ 9223372036854775807 < 1 + rg.length + 3 := by omega
    have q3 : ¬ 9223372036854775807 < 1 + rg.length + 3 + it.length := by omega
    have q4 : ¬ 9223372036854775807 < 1 + rg.length + 3 + it.length + 1 := by omega
    go_enter Tryz.func114, Tryz.ntmps114
    go_wp2_with fail
    (with_reducible refine hnm.mono ?_)
    rintro _ w1 ⟨rfl, b1⟩
    have hv1 := hv.below b1 hB
    go_wp2_with fail
    (with_reducible refine (hcon w1 hv1).mono ?_)
    rintro _ w2 ⟨rfl, b2⟩
    go_wp2_with fail
    go_ret
    refine ⟨?_, b1.trans (b2.mono b1.size)⟩
    show Ending.returned (Value.string _) = Ending.returned (Value.string _)
    congr 2
    apply Go.WideShapes.bytes_inj
    simp
theorem rlastS_any {B : Nat} (i : IV) (h1 : I64 i.imm) (h2 : I64 i.src) (w : World) (hv : Tv B w) (hB : B ≤ w.heap.size) : Calls Tryz.prog 115 #[.agg (ivV i).toArray] w fun e w' => e = .returned (.string ⟨(lastS i).toArray⟩) ∧ Below w.heap.size w w' := by
  obtain ⟨op, nr, d, s, u, o, m, z⟩ := i
  simp only at h1 h2
  have n1 := (Below.refl w.heap.size w).alloc (Nat.le_refl _) (.cells #[.int .u8 op, .bool nr, .int .i64 d, .int .i64 s, .bool u, .int .i64 o, .int .i64 m, .int .i64 z] 40)
  have hv1 := hv.below n1 hB
  unfold ivV
  cases u with
  | true =>
    have hcon := itoa_any m h1.1 h1.2 _ hv1
    go_enter Tryz.func115, Tryz.ntmps115
    go_wp2_with fail
    (with_reducible refine hcon.mono ?_)
    rintro _ w1 ⟨rfl, b1⟩
    go_wp2_with fail
    go_ret
    exact ⟨by simp [lastS], n1.trans (b1.mono n1.size)⟩
  | false =>
    have hcon := rname_any s h2 _ hv1
    go_enter Tryz.func115, Tryz.ntmps115
    go_wp2_with fail
    (with_reducible refine hcon.mono ?_)
    rintro _ w1 ⟨rfl, b1⟩
    go_wp2_with fail
    go_ret
    exact ⟨by simp [lastS], n1.trans (b1.mono n1.size)⟩
end Go.Proofs.YtjebjninlejoeaaGreatDoor
namespace Go.Proofs.YtjebjninlejoeaaGreatDoor
open Go.RowKit Go.Maps Go.ChangeMaps
set_option linter.unusedVariables false
set_option linter.unusedSimpArgs false
set_option linter.unusedSectionVars false
set_option maxRecDepth 100000

/-- The word that the document begins a line with. -/
def bwW (op : Int) : Nm := if op ≤ 27 then wordsL.getD (op - 1).toNat [] else []
def fsW (op : Int) (nr : Bool) : Nm := bwW op ++ (if nr then n32 else [])
theorem fs_first (i : IV) (h : (1 ≤ i.op ∧ i.op ≤ 13) ∨ (17 ≤ i.op ∧ i.op ≤ 27)) : fsW i.op i.narrow = firstS i := by
  obtain ⟨op, nr, d, s, u, o, m, z⟩ := i
  simp only at h
  have key : ∀ k : Fin 28, (1 ≤ k.val ∧ k.val ≤ 13) ∨ (17 ≤ k.val ∧ k.val ≤ 27) → fsW (k.val : Int) nr = firstS ⟨(k.val : Int), nr, 0, 0, false, 0, 0, 0⟩ := by
    cases nr <;> decide +kernel
  have := key ⟨op.toNat, by omega⟩ (by simp only; omega)
  simp only [show ((op.toNat : Nat) : Int) = op by omega] at this
  exact this
theorem fsW_len (op : Int) (nr : Bool) (h : 1 ≤ op ∧ op ≤ 28) : (fsW op nr).length ≤ 6 := by
  have key : ∀ k : Fin 29, (fsW (k.val : Int) nr).length ≤ 6 := by
    cases nr <;> decide +kernel
  have := key ⟨op.toNat, by omega⟩
  simpa only [show ((op.toNat : Nat) : Int) = op by omega] using this
theorem rcell_len {n o : Int} (hn : I64 n) (ho : -9223372036854775807 ≤ o ∧ o ≤ 9223372036854775807) : (cellS n o).length ≤ 60 := by
  have h1 : (regN n).length ≤ 22 := regN_len hn
  have h2 := apart_len2 ho [32]
  unfold cellS
  simp at h2 ⊢
  omega
set_option maxHeartbeats 8000000 in
theorem rone_any (i : IV) (hr : rightP i = true) {B : Nat} (w : World) (hv : Tv B w) (hB : B ≤ w.heap.size) : Calls Tryz.prog 39 #[.agg (ivV i).toArray] w fun e w' => e = .returned (.string ⟨(showI i).toArray⟩) ∧ Below w.heap.size w w' := by
  obtain ⟨hi, hop⟩ := right_ok hr
  have HFF := Lib.hid (fs_first i)
  obtain ⟨op, nr, d, s, u, o, m, z⟩ := i
  simp only at hop HFF
  have HFL := Lib.hid (fsW_len op nr (by omega))
  have HOP := Lib.hid hop
  have n1 := Lib.hid ((Below.refl w.heap.size w).alloc (Nat.le_refl _) (.cells #[.int .u8 op, .bool nr, .int .i64 d, .int .i64 s, .bool u, .int .i64 o, .int .i64 m, .int .i64 z] 40))
  have hx : Hid (Bk (w.alloc (.cells #[.int .u8 op, .bool nr, .int .i64 d, .int .i64 s, .bool u, .int .i64 o, .int .i64 m, .int .i64 z] 40)) w.heap.size 40 [.int .u8 op, .bool nr, .int .i64 d, .int .i64 s, .bool u, .int .i64 o, .int .i64 m, .int .i64 z]) := Lib.hid (Bk.new w _ _)
  have HHI := Lib.hid hi
  clear hi hr
  unfold ivV
  go_enter Tryz.func39, Tryz.ntmps39
  go_upto_region 2 with fail
  generalize (w.alloc (.cells #[.int .u8 op, .bool nr, .int .i64 d, .int .i64 s, .bool u, .int .i64 o, .int .i64 m, .int .i64 z] 40)) = wa at *
  generalize hX : w.heap.size = X at *
  obtain ⟨c0, c1, -, -, -, -, -, -⟩ := sb_of hx.out
  go_upto_if 6 with fail
  go_cut [3] (fun b wx => b = .string ⟨(bwW op).toArray⟩ ∧ Hid (Below X w wx) ∧ Hid (Bk wx X 40 [.int .u8 op, .bool nr, .int .i64 d, .int .i64 s, .bool u, .int .i64 o, .int .i64 m, .int .i64 z]))
  case first =>
    clear HFF HFL HOP
    have hlt := Lib.hid hx.out.lt
    by_cases h28 : op = 28
    · subst h28
      go_wp2_with fail
      go_meet
      exact ⟨by first | rfl | kernel_rfl, n1, hx⟩
    · obtain ⟨k, hk, hk2⟩ : ∃ k : Fin 27, op = (k.val : Int) + 1 ∧ wordsL[k.val]?.isSome = true := by
        refine ⟨⟨(op - 1).toNat, by omega⟩, by simp only; omega, ?_⟩
        rw [List.getElem?_eq_getElem (show (op - 1).toNat < wordsL.length by show _ < 27; omega)]
        rfl
      have hfs : bwW op = wordsL.getD k.val [] := by
        unfold bwW
        rw [if_pos (by have := k.isLt; omega), show (op - 1).toNat = k.val by omega]
      obtain ⟨v, hv0⟩ := Option.isSome_iff_exists.1 hk2
      have hgd : wordsL.getD k.val [] = v := by rw [List.getD_eq_getElem?_getD, hv0]; rfl
      rw [hgd] at hfs
      have hkl := k.isLt
      generalize k.val = kk at *
      have q1 : (0 : Int) ≤ (kk : Int) := by omega
      have q2 : (kk : Int) < 27 := by omega
      have q3 : (kk : Int) + 1 ≤ 27 := by omega
      have q4 : (kk : Int) + 1 - 1 = (kk : Int) := by omega
      have q5 : IntKind.u8.wrap (kk : Int) = (kk : Int) := IntWalk.u8_in _ (by omega)
      subst hk
      have HFS := Lib.hid hfs
      clear hfs hgd hk2 h28 hop
      have HV0 := Lib.hid hv0
      clear hv0
      go_upto_region 3 with fail
      refine wp_region_held_drew (S := fun W => (W.cell? ⟨X, 0, none⟩ = some (.int .u8 ((kk : Int) + 1)) ∧ W.cell? ⟨X, 1, none⟩ = some (.bool nr))) (by kernel_rfl) ⟨c0, c1⟩ (fun hS => ?_)
      have hn2 := Lib.hid n1.out.drew
      have hx2 := Lib.hid (Bk.drew hx.out)
      generalize (_ : World).drew = wb at *
      refine wpAnyH_take (i := 1) (v := ?_) rfl (by kernel_rfl) (by kernel_rfl) (by kernel_rfl) (fun _ _ _ h => h) (Or.inl ⟨by rfl, ?_⟩) hS ?_
      rotate_left 1
      · intro w' hSw
        go_simp <;> with_reducible rfl
      try simp only [List.getElem_toArray, List.getElem_cons_zero, List.getElem_cons_succ, Act.put, List.setIfInBounds_toArray, List.set_cons_zero, List.set_cons_succ]
      refine wpAnyH_take (i := 2) (v := ?_) rfl (by kernel_rfl) (by kernel_rfl) (by kernel_rfl) (fun _ _ _ h => h) (Or.inl ⟨by rfl, ?_⟩) hS ?_
      rotate_left 1
      · intro w' hSw
        go_simp <;> with_reducible rfl
      try simp only [List.getElem_toArray, List.getElem_cons_zero, List.getElem_cons_succ, Act.put, List.setIfInBounds_toArray, List.set_cons_zero, List.set_cons_succ]
      refine wpAnyH_take (i := 3) (v := ?_) rfl (by kernel_rfl) (by kernel_rfl) (by kernel_rfl) (fun _ _ _ h => h) (Or.inl ⟨by rfl, ?_⟩) hS ?_
      rotate_left 1
      · intro w' hSw
        go_simp <;> with_reducible rfl
      try simp only [List.getElem_toArray, List.getElem_cons_zero, List.getElem_cons_succ, Act.put, List.setIfInBounds_toArray, List.set_cons_zero, List.set_cons_succ]
      refine wpAnyH_ready (rs := [0]) (by kernel_rfl) (by simp) (AllReadyH.cons rfl (fun K hK => ?_) AllReadyH.nil)
      go_simp
      (with_reducible refine (rwords_any _).mono ?_)
      rintro _ w5 ⟨rfl, rfl⟩
      have hbl := (Below.refl wb.heap.size wb).alloc (Nat.le_refl _) (.cells (wordsL.map nmV).toArray 9)
      have hn3 := Lib.hid (hn2.out.trans (hbl.mono (hX ▸ hn2.out.size)))
      have hx3 := Lib.hid (hx2.out.below hbl hx2.out.lt)
      have hbk := Bk.new wb 9 (wordsL.map nmV)
      have cw := hbk.cell kk
      rw [List.getElem?_map, HV0.out] at cw
      simp only [Option.map_some, nmV] at cw
      clear hbk hbl
      generalize (wb.alloc (.cells (wordsL.map nmV).toArray 9)) = wc at *
      generalize wb.heap.size = Y at *
      go_simp
      refine hK _ _ ⟨hx3.out.cell 0, hx3.out.cell 1⟩ (fun hS => ?_)
      clear hK K
      try simp only [List.getElem_toArray, List.getElem_cons_zero, List.getElem_cons_succ, Act.put, List.setIfInBounds_toArray, List.set_cons_zero, List.set_cons_succ]
      refine wpAnyH_take (i := 4) (v := ?_) rfl (by kernel_rfl) (by kernel_rfl) (by kernel_rfl) (fun _ _ _ h => h) (Or.inl ⟨by rfl, ?_⟩) hS ?_
      rotate_left 1
      · intro w' hSw
        go_simp <;> with_reducible rfl
      try simp only [List.getElem_toArray, List.getElem_cons_zero, List.getElem_cons_succ, Act.put, List.setIfInBounds_toArray, List.set_cons_zero, List.set_cons_succ]
      refine wpAnyH_ready (rs := [5]) (by kernel_rfl) (by simp) (AllReadyH.cons rfl (fun K hK => ?_) AllReadyH.nil)
      go_simp
      refine hK _ _ hS (fun hS => ?_)
      clear hK K
      try simp only [List.getElem_toArray, List.getElem_cons_zero, List.getElem_cons_succ, Act.put, List.setIfInBounds_toArray, List.set_cons_zero, List.set_cons_succ]
      refine wpAnyH_take (i := 6) (v := ?_) rfl (by kernel_rfl) (by kernel_rfl) (by kernel_rfl) (fun _ _ _ h => h) (Or.inl ⟨by rfl, ?_⟩) hS ?_
      rotate_left 1
      · intro w' hSw
        go_simp <;> with_reducible rfl
      try simp only [List.getElem_toArray, List.getElem_cons_zero, List.getElem_cons_succ, Act.put, List.setIfInBounds_toArray, List.set_cons_zero, List.set_cons_succ]
      refine wpAnyH_done (by kernel_rfl) ?_ _
      clear cw
      go_wp2_with fail
      go_meet
      exact ⟨by rw [HFS.out], hn3, hx3⟩
  case rest =>
  obtain ⟨rfl, n1, hx⟩ := hcut
  obtain ⟨c0, c1, -, -, -, -, -, -⟩ := sb_of hx.out
  have hbl : (bwW op).length ≤ 6 := by have h9 := HFL.out; unfold fsW at h9; simp at h9; omega
  go_upto_if 14 with fail
  generalize hwa : wc = wa at *
  go_cut [3] (fun b wx => b = .string ⟨(fsW op nr).toArray⟩ ∧ Hid (Below X w wx) ∧ Hid (Bk wx X 40 [.int .u8 op, .bool nr, .int .i64 d, .int .i64 s, .bool u, .int .i64 o, .int .i64 m, .int .i64 z]))
  case first =>
    clear HFF HFL HOP hop
    cases nr with
    | true =>
      have HF : Hid (fsW op true = bwW op ++ n32) := Lib.hid (by simp [fsW])
      have hcat : ((⟨(bwW op).toArray⟩ : ByteArray) ++ ⟨#[51, 50]⟩) = ⟨(bwW op ++ n32).toArray⟩ := cat_is _ [51, 50]
      have z1 : ¬ 9223372036854775807 < (bwW op).length + 2 := by omega
      generalize bwW op = v at *
      go_wp2_with fail
      go_meet
      exact ⟨by rw [HF.out], n1, hx⟩
    | false =>
      have HF : Hid (fsW op false = bwW op) := Lib.hid (by simp [fsW])
      generalize bwW op = v at *
      go_wp2_with fail
      go_meet
      exact ⟨by rw [HF.out], n1, hx⟩
  case rest =>
    obtain ⟨rfl, HB, HX⟩ := hcut
    obtain ⟨c0, c1, c2, c3, c4, c5, c6, c7⟩ := sb_of HX.out
    have hfl := HFL.out
    have hXB : B ≤ X := hB
    clear n1 hx
    have HV := Lib.hid (fun (W : World) (h : Below X w W) => (show Tv B W from hv.below (show Below w.heap.size w W by rw [hX]; exact h) (show B ≤ w.heap.size by rw [hX]; exact hXB)))
    have hnm := fun (W : World) (hW : Below X w W) => rname_any (B := B) d HHI.out.d W (HV.out W hW)
    have hit := fun (W : World) (hW : Below X w W) => itoa_any (B := B) z HHI.out.z.1 HHI.out.z.2 W (HV.out W hW)
    have hla := fun (W : World) (hW : Below X w W) => rlastS_any (B := B) ⟨op, nr, d, s, u, o, m, z⟩ HHI.out.m HHI.out.s W (HV.out W hW) (Nat.le_trans hXB (hX ▸ hW.size))
    have hfa := fun (W : World) (hW : Below X w W) => rfarS_any (B := B) o HHI.out.o W (HV.out W hW)
    have hcs := fun (W : World) (hW : Below X w W) => rcellS_any (B := B) s o HHI.out.s HHI.out.o W (HV.out W hW) (Nat.le_trans hXB (hX ▸ hW.size))
    have hcd := fun (W : World) (hW : Below X w W) => rcellS_any (B := B) d o HHI.out.d HHI.out.o W (HV.out W hW) (Nat.le_trans hXB (hX ▸ hW.size))
    have lr : (regN d).length ≤ 22 := regN_len HHI.out.d
    have lz : (Lib.itoa z).length ≤ 21 := Lib.itoa_length_le z HHI.out.z.1 HHI.out.z.2
    have ll : (lastS ⟨op, nr, d, s, u, o, m, z⟩).length ≤ 22 := by
      have a1 : (regN s).length ≤ 22 := regN_len HHI.out.s
      have a2 : (Lib.itoa m).length ≤ 21 := Lib.itoa_length_le m HHI.out.m.1 HHI.out.m.2
      unfold lastS
      split <;> simp only <;> omega
    have lap : (apartS o []).length ≤ 22 := apart_len2 HHI.out.o []
    have lc1 : (cellS s o).length ≤ 60 := rcell_len HHI.out.s HHI.out.o
    have lc2 : (cellS d o).length ≤ 60 := rcell_len HHI.out.d HHI.out.o
    unfold ivV at hla
    have HNX := Lib.hid (fun (W W' : World) (h : Bk W X 40 [.int .u8 op, .bool nr, .int .i64 d, .int .i64 s, .bool u, .int .i64 o, .int .i64 m, .int .i64 z]) (h1 : Below X w W) (h2 : Below W.heap.size W W') => (show Bk W' X 40 [.int .u8 op, .bool nr, .int .i64 d, .int .i64 s, .bool u, .int .i64 o, .int .i64 m, .int .i64 z] ∧ Below X w W' from ⟨h.below h2 h.lt, h1.trans (h2.mono (hX ▸ h1.size))⟩))
    have hSH : ∀ k, k = showI ⟨op, nr, d, s, u, o, m, z⟩ → k = showI ⟨op, nr, d, s, u, o, m, z⟩ := fun k h => h
    generalize hfs : fsW op nr = fs at *
    clear HHI HFL hSH
    rcases HOP.out with h | h | h | h | h | h | h
    · have H := Lib.hid h
      clear h
      have d28 : decide (op = 28) = false := decide_eq_false (by have := H.out; omega)
      have e28 : (op == 28) = false := by have := H.out; simp; omega
      have d16 : decide (op = 16) = false := decide_eq_false (by have := H.out; omega)
      have e16 : (op == 16) = false := by have := H.out; simp; omega
      have d14 : decide (op = 14) = false := decide_eq_false (by have := H.out; omega)
      have e14 : (op == 14) = false := by have := H.out; simp; omega
      have d15 : decide (op = 15) = false := decide_eq_false (by have := H.out; omega)
      have e15 : (op == 15) = false := by have := H.out; simp; omega
      have d13 : decide (op = 13) = false := decide_eq_false (by have := H.out; omega)
      have e13 : (op == 13) = false := by have := H.out; simp; omega
      have d17 : decide ((17 : Int) ≤ op) = false := decide_eq_false (by have := H.out; omega)
      have HSH := Lib.hid (show showI ⟨op, nr, d, s, u, o, m, z⟩ = fs ++ 32 :: (regN d ++ 44 :: 32 :: lastS ⟨op, nr, d, s, u, o, m, z⟩) by
        rw [HFF.out (by have := H.out; omega)]
        unfold showI
        have h := H.out
        simp only [show op ≠ 28 by omega, show op ≠ 16 by omega, show op ≠ 14 by omega, show op ≠ 15 by omega, show op ≠ 13 by omega, show ¬ 17 ≤ op by omega, if_false, if_true, List.append_nil])
      generalize regN d = rg at *
      generalize lastS ⟨op, nr, d, s, u, o, m, z⟩ = la at *
      generalize apartS o [] = ap at *
      generalize cellS s o = ce at *
      generalize cellS d o = cd at *
      generalize Lib.itoa z = iz at *
      clear HFF
      have g1 : ¬ 9223372036854775807 < fs.length + 1 := by omega
      have g2 : ¬ 9223372036854775807 < fs.length + 1 + rg.length := by omega
      have g3 : ¬ 9223372036854775807 < fs.length + 1 + rg.length + 2 := by omega
      have g4 : ¬ 9223372036854775807 < fs.length + 1 + rg.length + 2 + la.length := by omega
      go_upto_region 18 with fail
      refine wp_region_held_drew (S := fun W => W.cell? ⟨X, 0, none⟩ = some (.int .u8 op) ∧ W.cell? ⟨X, 1, none⟩ = some (.bool nr) ∧ W.cell? ⟨X, 2, none⟩ = some (.int .i64 d) ∧ W.cell? ⟨X, 3, none⟩ = some (.int .i64 s) ∧ W.cell? ⟨X, 4, none⟩ = some (.bool u) ∧ W.cell? ⟨X, 5, none⟩ = some (.int .i64 o) ∧ W.cell? ⟨X, 6, none⟩ = some (.int .i64 m) ∧ W.cell? ⟨X, 7, none⟩ = some (.int .i64 z)) (by kernel_rfl) ⟨c0, c1, c2, c3, c4, c5, c6, c7⟩ (fun hS => ?_)
      have hx1 := Lib.hid (Bk.drew HX.out)
      have hb1 := Lib.hid HB.out.drew
      generalize (_ : World).drew = w1 at *
      refine wpAnyH_take (i := 0) (v := ?_) rfl (by kernel_rfl) (by kernel_rfl) (by kernel_rfl) (fun _ _ _ h => h) (Or.inl ⟨by rfl, ?_⟩) hS ?_
      rotate_left 1
      · intro w' hSw
        go_simp <;> with_reducible rfl
      try simp only [List.getElem_toArray, List.getElem_cons_zero, List.getElem_cons_succ, Act.put, List.setIfInBounds_toArray, List.set_cons_zero, List.set_cons_succ]
      refine wpAnyH_take (i := 1) (v := ?_) rfl (by kernel_rfl) (by kernel_rfl) (by kernel_rfl) (fun _ _ _ h => h) (Or.inl ⟨by rfl, ?_⟩) hS ?_
      rotate_left 1
      · intro w' hSw
        go_simp <;> with_reducible rfl
      try simp only [List.getElem_toArray, List.getElem_cons_zero, List.getElem_cons_succ, Act.put, List.setIfInBounds_toArray, List.set_cons_zero, List.set_cons_succ]
      refine wpAnyH_take (i := 2) (v := ?_) rfl (by kernel_rfl) (by kernel_rfl) (by kernel_rfl) (fun _ _ _ h => h) (Or.inl ⟨by rfl, ?_⟩) hS ?_
      rotate_left 1
      · intro w' hSw
        go_simp <;> with_reducible rfl
      try simp only [List.getElem_toArray, List.getElem_cons_zero, List.getElem_cons_succ, Act.put, List.setIfInBounds_toArray, List.set_cons_zero, List.set_cons_succ]
      refine wpAnyH_take (i := 3) (v := ?_) rfl (by kernel_rfl) (by kernel_rfl) (by kernel_rfl) (fun _ _ _ h => h) (Or.inl ⟨by rfl, ?_⟩) hS ?_
      rotate_left 1
      · intro w' hSw
        go_simp <;> with_reducible rfl
      try simp only [List.getElem_toArray, List.getElem_cons_zero, List.getElem_cons_succ, Act.put, List.setIfInBounds_toArray, List.set_cons_zero, List.set_cons_succ]
      refine wpAnyH_take (i := 7) (v := ?_) rfl (by kernel_rfl) (by kernel_rfl) (by kernel_rfl) (fun _ _ _ h => h) (Or.inl ⟨by rfl, ?_⟩) hS ?_
      rotate_left 1
      · intro w' hSw
        go_simp <;> with_reducible rfl
      try simp only [List.getElem_toArray, List.getElem_cons_zero, List.getElem_cons_succ, Act.put, List.setIfInBounds_toArray, List.set_cons_zero, List.set_cons_succ]
      refine wpAnyH_ready (rs := [4]) (by kernel_rfl) (by simp) (AllReadyH.cons rfl (fun K hK => ?_) AllReadyH.nil)
      go_simp
      (with_reducible refine (hnm _ hb1.out).mono ?_)
      rintro _ w2 ⟨rfl, bb⟩
      have hx2 := Lib.hid ((hx1.out).below bb hx1.out.lt)
      have hb2 := Lib.hid (hb1.out.trans (bb.mono (hX ▸ hb1.out.size)))
      go_simp
      refine hK _ _ (sb_of hx2.out) (fun hS => ?_)
      clear hK K bb
      try simp only [List.getElem_toArray, List.getElem_cons_zero, List.getElem_cons_succ, Act.put, List.setIfInBounds_toArray, List.set_cons_zero, List.set_cons_succ]
      refine wpAnyH_take (i := 5) (v := ?_) rfl (by kernel_rfl) (by kernel_rfl) (by kernel_rfl) (fun _ _ _ h => h) (Or.inl ⟨by rfl, ?_⟩) hS ?_
      rotate_left 1
      · intro w' hSw
        go_simp <;> with_reducible rfl
      try simp only [List.getElem_toArray, List.getElem_cons_zero, List.getElem_cons_succ, Act.put, List.setIfInBounds_toArray, List.set_cons_zero, List.set_cons_succ]
      refine wpAnyH_take (i := 6) (v := ?_) rfl (by kernel_rfl) (by kernel_rfl) (by kernel_rfl) (fun _ _ _ h => h) (Or.inl ⟨by rfl, ?_⟩) hS ?_
      rotate_left 1
      · intro w' hSw
        go_simp <;> with_reducible rfl
      try simp only [List.getElem_toArray, List.getElem_cons_zero, List.getElem_cons_succ, Act.put, List.setIfInBounds_toArray, List.set_cons_zero, List.set_cons_succ]
      refine wpAnyH_ready (rs := [8]) (by kernel_rfl) (by simp) (AllReadyH.cons rfl (fun K hK => ?_) AllReadyH.nil)
      go_simp
      (with_reducible refine (hla _ hb2.out).mono ?_)
      rintro _ w3 ⟨rfl, bb⟩
      have hx3 := Lib.hid ((hx2.out).below bb hx2.out.lt)
      have hb3 := Lib.hid (hb2.out.trans (bb.mono (hX ▸ hb2.out.size)))
      go_simp
      refine hK _ _ (sb_of hx3.out) (fun hS => ?_)
      clear hK K bb
      try simp only [List.getElem_toArray, List.getElem_cons_zero, List.getElem_cons_succ, Act.put, List.setIfInBounds_toArray, List.set_cons_zero, List.set_cons_succ]
      refine wpAnyH_take (i := 9) (v := ?_) rfl (by kernel_rfl) (by kernel_rfl) (by kernel_rfl) (fun _ _ _ h => h) (Or.inl ⟨by rfl, ?_⟩) hS ?_
      rotate_left 1
      · intro w' hSw
        go_simp <;> with_reducible rfl
      try simp only [List.getElem_toArray, List.getElem_cons_zero, List.getElem_cons_succ, Act.put, List.setIfInBounds_toArray, List.set_cons_zero, List.set_cons_succ]
      refine wpAnyH_take (i := 10) (v := ?_) rfl (by kernel_rfl) (by kernel_rfl) (by kernel_rfl) (fun _ _ _ h => h) (Or.inl ⟨by rfl, ?_⟩) hS ?_
      rotate_left 1
      · intro w' hSw
        go_simp <;> with_reducible rfl
      try simp only [List.getElem_toArray, List.getElem_cons_zero, List.getElem_cons_succ, Act.put, List.setIfInBounds_toArray, List.set_cons_zero, List.set_cons_succ]
      refine wpAnyH_done (by kernel_rfl) ?_ _
      go_wp2_with fail
      go_ret
      refine ⟨?_, by first | exact hb3.out | (rw [hX]; exact hb3.out)⟩
      rw [HSH.out]
      show Ending.returned (Value.string _) = Ending.returned (Value.string _)
      congr 2
      all_goals (apply Go.WideShapes.bytes_inj; simp [loadW, putW, jumpW])
    · have H := Lib.hid h
      clear h
      have d28 : decide (op = 28) = false := decide_eq_false (by have := H.out; omega)
      have e28 : (op == 28) = false := by have := H.out; simp; omega
      have d16 : decide (op = 16) = false := decide_eq_false (by have := H.out; omega)
      have e16 : (op == 16) = false := by have := H.out; simp; omega
      have d14 : decide (op = 14) = false := decide_eq_false (by have := H.out; omega)
      have e14 : (op == 14) = false := by have := H.out; simp; omega
      have d15 : decide (op = 15) = false := decide_eq_false (by have := H.out; omega)
      have e15 : (op == 15) = false := by have := H.out; simp; omega
      have d13 : decide (op = 13) = true := decide_eq_true (by have := H.out; omega)
      have e13 : (op == 13) = true := by have := H.out; simp; omega
      have HSH := Lib.hid (show showI ⟨op, nr, d, s, u, o, m, z⟩ = fs ++ 32 :: regN d by
        rw [HFF.out (by have := H.out; omega)]
        have h := H.out
        rw [showI, if_neg (show ¬ op = 28 by omega), if_neg (show ¬ op = 16 by omega), if_neg (show ¬ op = 14 by omega), if_neg (show ¬ op = 15 by omega), if_pos (show op = 13 from h)])
      generalize regN d = rg at *
      generalize lastS ⟨op, nr, d, s, u, o, m, z⟩ = la at *
      generalize apartS o [] = ap at *
      generalize cellS s o = ce at *
      generalize cellS d o = cd at *
      generalize Lib.itoa z = iz at *
      clear HFF
      have g1 : ¬ 9223372036854775807 < fs.length + 1 := by omega
      have g2 : ¬ 9223372036854775807 < fs.length + 1 + rg.length := by omega
      go_upto_region 15 with fail
      go_wp2_with fail
      (with_reducible refine (hnm _ HB.out).mono ?_)
      rintro _ w2 ⟨rfl, b2⟩
      have hb2 := Lib.hid (HB.out.trans (b2.mono (hX ▸ HB.out.size)))
      go_wp2_with fail
      go_ret
      refine ⟨?_, by first | exact hb2.out | (rw [hX]; exact hb2.out)⟩
      rw [HSH.out]
      show Ending.returned (Value.string _) = Ending.returned (Value.string _)
      congr 2
      all_goals (apply Go.WideShapes.bytes_inj; simp [loadW, putW, jumpW])
    · have H := Lib.hid h
      clear h
      have d28 : decide (op = 28) = false := decide_eq_false (by have := H.out; omega)
      have e28 : (op == 28) = false := by have := H.out; simp; omega
      have d16 : decide (op = 16) = false := decide_eq_false (by have := H.out; omega)
      have e16 : (op == 16) = false := by have := H.out; simp; omega
      have d14 : decide (op = 14) = true := decide_eq_true (by have := H.out; omega)
      have e14 : (op == 14) = true := by have := H.out; simp; omega
      have HSH := Lib.hid (show showI ⟨op, nr, d, s, u, o, m, z⟩ = loadW ++ (Lib.itoa z ++ 32 :: (regN d ++ 44 :: 32 :: cellS s o)) by
        unfold showI
        have h := H.out
        simp only [h, show (14 : Int) ≠ 28 by decide, show (14 : Int) ≠ 16 by decide, if_false, if_true])
      generalize regN d = rg at *
      generalize lastS ⟨op, nr, d, s, u, o, m, z⟩ = la at *
      generalize apartS o [] = ap at *
      generalize cellS s o = ce at *
      generalize cellS d o = cd at *
      generalize Lib.itoa z = iz at *
      clear HFF
      have g1 : ¬ 9223372036854775807 < 4 + iz.length := by omega
      have g2 : ¬ 9223372036854775807 < 4 + iz.length + 1 := by omega
      have g3 : ¬ 9223372036854775807 < 4 + iz.length + 1 + rg.length := by omega
      have g4 : ¬ 9223372036854775807 < 4 + iz.length + 1 + rg.length + 2 := by omega
      have g5 : ¬ 9223372036854775807 < 4 + iz.length + 1 + rg.length + 2 + ce.length := by omega
      go_upto_region 11 with fail
      refine wp_region_held_drew (S := fun W => W.cell? ⟨X, 0, none⟩ = some (.int .u8 op) ∧ W.cell? ⟨X, 1, none⟩ = some (.bool nr) ∧ W.cell? ⟨X, 2, none⟩ = some (.int .i64 d) ∧ W.cell? ⟨X, 3, none⟩ = some (.int .i64 s) ∧ W.cell? ⟨X, 4, none⟩ = some (.bool u) ∧ W.cell? ⟨X, 5, none⟩ = some (.int .i64 o) ∧ W.cell? ⟨X, 6, none⟩ = some (.int .i64 m) ∧ W.cell? ⟨X, 7, none⟩ = some (.int .i64 z)) (by kernel_rfl) ⟨c0, c1, c2, c3, c4, c5, c6, c7⟩ (fun hS => ?_)
      have hx1 := Lib.hid (Bk.drew HX.out)
      have hb1 := Lib.hid HB.out.drew
      generalize (_ : World).drew = w1 at *
      refine wpAnyH_take (i := 0) (v := ?_) rfl (by kernel_rfl) (by kernel_rfl) (by kernel_rfl) (fun _ _ _ h => h) (Or.inl ⟨by rfl, ?_⟩) hS ?_
      rotate_left 1
      · intro w' hSw
        go_simp <;> with_reducible rfl
      try simp only [List.getElem_toArray, List.getElem_cons_zero, List.getElem_cons_succ, Act.put, List.setIfInBounds_toArray, List.set_cons_zero, List.set_cons_succ]
      refine wpAnyH_take (i := 1) (v := ?_) rfl (by kernel_rfl) (by kernel_rfl) (by kernel_rfl) (fun _ _ _ h => h) (Or.inl ⟨by rfl, ?_⟩) hS ?_
      rotate_left 1
      · intro w' hSw
        go_simp <;> with_reducible rfl
      try simp only [List.getElem_toArray, List.getElem_cons_zero, List.getElem_cons_succ, Act.put, List.setIfInBounds_toArray, List.set_cons_zero, List.set_cons_succ]
      refine wpAnyH_take (i := 5) (v := ?_) rfl (by kernel_rfl) (by kernel_rfl) (by kernel_rfl) (fun _ _ _ h => h) (Or.inl ⟨by rfl, ?_⟩) hS ?_
      rotate_left 1
      · intro w' hSw
        go_simp <;> with_reducible rfl
      try simp only [List.getElem_toArray, List.getElem_cons_zero, List.getElem_cons_succ, Act.put, List.setIfInBounds_toArray, List.set_cons_zero, List.set_cons_succ]
      refine wpAnyH_take (i := 6) (v := ?_) rfl (by kernel_rfl) (by kernel_rfl) (by kernel_rfl) (fun _ _ _ h => h) (Or.inl ⟨by rfl, ?_⟩) hS ?_
      rotate_left 1
      · intro w' hSw
        go_simp <;> with_reducible rfl
      try simp only [List.getElem_toArray, List.getElem_cons_zero, List.getElem_cons_succ, Act.put, List.setIfInBounds_toArray, List.set_cons_zero, List.set_cons_succ]
      refine wpAnyH_take (i := 10) (v := ?_) rfl (by kernel_rfl) (by kernel_rfl) (by kernel_rfl) (fun _ _ _ h => h) (Or.inl ⟨by rfl, ?_⟩) hS ?_
      rotate_left 1
      · intro w' hSw
        go_simp <;> with_reducible rfl
      try simp only [List.getElem_toArray, List.getElem_cons_zero, List.getElem_cons_succ, Act.put, List.setIfInBounds_toArray, List.set_cons_zero, List.set_cons_succ]
      refine wpAnyH_take (i := 11) (v := ?_) rfl (by kernel_rfl) (by kernel_rfl) (by kernel_rfl) (fun _ _ _ h => h) (Or.inl ⟨by rfl, ?_⟩) hS ?_
      rotate_left 1
      · intro w' hSw
        go_simp <;> with_reducible rfl
      try simp only [List.getElem_toArray, List.getElem_cons_zero, List.getElem_cons_succ, Act.put, List.setIfInBounds_toArray, List.set_cons_zero, List.set_cons_succ]
      refine wpAnyH_take (i := 12) (v := ?_) rfl (by kernel_rfl) (by kernel_rfl) (by kernel_rfl) (fun _ _ _ h => h) (Or.inl ⟨by rfl, ?_⟩) hS ?_
      rotate_left 1
      · intro w' hSw
        go_simp <;> with_reducible rfl
      try simp only [List.getElem_toArray, List.getElem_cons_zero, List.getElem_cons_succ, Act.put, List.setIfInBounds_toArray, List.set_cons_zero, List.set_cons_succ]
      refine wpAnyH_take (i := 13) (v := ?_) rfl (by kernel_rfl) (by kernel_rfl) (by kernel_rfl) (fun _ _ _ h => h) (Or.inl ⟨by rfl, ?_⟩) hS ?_
      rotate_left 1
      · intro w' hSw
        go_simp <;> with_reducible rfl
      try simp only [List.getElem_toArray, List.getElem_cons_zero, List.getElem_cons_succ, Act.put, List.setIfInBounds_toArray, List.set_cons_zero, List.set_cons_succ]
      refine wpAnyH_ready (rs := [2]) (by kernel_rfl) (by simp) (AllReadyH.cons rfl (fun K hK => ?_) AllReadyH.nil)
      go_simp
      (with_reducible refine (hit _ hb1.out).mono ?_)
      rintro _ w2 ⟨rfl, bb⟩
      have hx2 := Lib.hid ((hx1.out).below bb hx1.out.lt)
      have hb2 := Lib.hid (hb1.out.trans (bb.mono (hX ▸ hb1.out.size)))
      go_simp
      refine hK _ _ (sb_of hx2.out) (fun hS => ?_)
      clear hK K bb
      try simp only [List.getElem_toArray, List.getElem_cons_zero, List.getElem_cons_succ, Act.put, List.setIfInBounds_toArray, List.set_cons_zero, List.set_cons_succ]
      refine wpAnyH_take (i := 3) (v := ?_) rfl (by kernel_rfl) (by kernel_rfl) (by kernel_rfl) (fun _ _ _ h => h) (Or.inl ⟨by rfl, ?_⟩) hS ?_
      rotate_left 1
      · intro w' hSw
        go_simp <;> with_reducible rfl
      try simp only [List.getElem_toArray, List.getElem_cons_zero, List.getElem_cons_succ, Act.put, List.setIfInBounds_toArray, List.set_cons_zero, List.set_cons_succ]
      refine wpAnyH_take (i := 4) (v := ?_) rfl (by kernel_rfl) (by kernel_rfl) (by kernel_rfl) (fun _ _ _ h => h) (Or.inl ⟨by rfl, ?_⟩) hS ?_
      rotate_left 1
      · intro w' hSw
        go_simp <;> with_reducible rfl
      try simp only [List.getElem_toArray, List.getElem_cons_zero, List.getElem_cons_succ, Act.put, List.setIfInBounds_toArray, List.set_cons_zero, List.set_cons_succ]
      refine wpAnyH_ready (rs := [7]) (by kernel_rfl) (by simp) (AllReadyH.cons rfl (fun K hK => ?_) AllReadyH.nil)
      go_simp
      (with_reducible refine (hnm _ hb2.out).mono ?_)
      rintro _ w3 ⟨rfl, bb⟩
      have hx3 := Lib.hid ((hx2.out).below bb hx2.out.lt)
      have hb3 := Lib.hid (hb2.out.trans (bb.mono (hX ▸ hb2.out.size)))
      go_simp
      refine hK _ _ (sb_of hx3.out) (fun hS => ?_)
      clear hK K bb
      try simp only [List.getElem_toArray, List.getElem_cons_zero, List.getElem_cons_succ, Act.put, List.setIfInBounds_toArray, List.set_cons_zero, List.set_cons_succ]
      refine wpAnyH_take (i := 8) (v := ?_) rfl (by kernel_rfl) (by kernel_rfl) (by kernel_rfl) (fun _ _ _ h => h) (Or.inl ⟨by rfl, ?_⟩) hS ?_
      rotate_left 1
      · intro w' hSw
        go_simp <;> with_reducible rfl
      try simp only [List.getElem_toArray, List.getElem_cons_zero, List.getElem_cons_succ, Act.put, List.setIfInBounds_toArray, List.set_cons_zero, List.set_cons_succ]
      refine wpAnyH_take (i := 9) (v := ?_) rfl (by kernel_rfl) (by kernel_rfl) (by kernel_rfl) (fun _ _ _ h => h) (Or.inl ⟨by rfl, ?_⟩) hS ?_
      rotate_left 1
      · intro w' hSw
        go_simp <;> with_reducible rfl
      try simp only [List.getElem_toArray, List.getElem_cons_zero, List.getElem_cons_succ, Act.put, List.setIfInBounds_toArray, List.set_cons_zero, List.set_cons_succ]
      refine wpAnyH_ready (rs := [14]) (by kernel_rfl) (by simp) (AllReadyH.cons rfl (fun K hK => ?_) AllReadyH.nil)
      go_simp
      (with_reducible refine (hcs _ hb3.out).mono ?_)
      rintro _ w4 ⟨rfl, bb⟩
      have hx4 := Lib.hid ((hx3.out).below bb hx3.out.lt)
      have hb4 := Lib.hid (hb3.out.trans (bb.mono (hX ▸ hb3.out.size)))
      go_simp
      refine hK _ _ (sb_of hx4.out) (fun hS => ?_)
      clear hK K bb
      try simp only [List.getElem_toArray, List.getElem_cons_zero, List.getElem_cons_succ, Act.put, List.setIfInBounds_toArray, List.set_cons_zero, List.set_cons_succ]
      refine wpAnyH_take (i := 15) (v := ?_) rfl (by kernel_rfl) (by kernel_rfl) (by kernel_rfl) (fun _ _ _ h => h) (Or.inl ⟨by rfl, ?_⟩) hS ?_
      rotate_left 1
      · intro w' hSw
        go_simp <;> with_reducible rfl
      try simp only [List.getElem_toArray, List.getElem_cons_zero, List.getElem_cons_succ, Act.put, List.setIfInBounds_toArray, List.set_cons_zero, List.set_cons_succ]
      refine wpAnyH_take (i := 16) (v := ?_) rfl (by kernel_rfl) (by kernel_rfl) (by kernel_rfl) (fun _ _ _ h => h) (Or.inl ⟨by rfl, ?_⟩) hS ?_
      rotate_left 1
      · intro w' hSw
        go_simp <;> with_reducible rfl
      try simp only [List.getElem_toArray, List.getElem_cons_zero, List.getElem_cons_succ, Act.put, List.setIfInBounds_toArray, List.set_cons_zero, List.set_cons_succ]
      refine wpAnyH_done (by kernel_rfl) ?_ _
      go_wp2_with fail
      go_ret
      refine ⟨?_, by first | exact hb4.out | (rw [hX]; exact hb4.out)⟩
      rw [HSH.out]
      show Ending.returned (Value.string _) = Ending.returned (Value.string _)
      congr 2
      all_goals (apply Go.WideShapes.bytes_inj; simp [loadW, putW, jumpW])
    · have H := Lib.hid h
      clear h
      have d28 : decide (op = 28) = false := decide_eq_false (by have := H.out; omega)
      have e28 : (op == 28) = false := by have := H.out; simp; omega
      have d16 : decide (op = 16) = false := decide_eq_false (by have := H.out; omega)
      have e16 : (op == 16) = false := by have := H.out; simp; omega
      have d14 : decide (op = 14) = false := decide_eq_false (by have := H.out; omega)
      have e14 : (op == 14) = false := by have := H.out; simp; omega
      have d15 : decide (op = 15) = true := decide_eq_true (by have := H.out; omega)
      have e15 : (op == 15) = true := by have := H.out; simp; omega
      have HSH := Lib.hid (show showI ⟨op, nr, d, s, u, o, m, z⟩ = putW ++ (Lib.itoa z ++ 32 :: (cellS d o ++ 44 :: 32 :: lastS ⟨op, nr, d, s, u, o, m, z⟩)) by
        unfold showI
        have h := H.out
        simp only [h, show (15 : Int) ≠ 28 by decide, show (15 : Int) ≠ 16 by decide, show (15 : Int) ≠ 14 by decide, if_false, if_true])
      generalize regN d = rg at *
      generalize lastS ⟨op, nr, d, s, u, o, m, z⟩ = la at *
      generalize apartS o [] = ap at *
      generalize cellS s o = ce at *
      generalize cellS d o = cd at *
      generalize Lib.itoa z = iz at *
      clear HFF
      have g1 : ¬ 9223372036854775807 < 3 + iz.length := by omega
      have g2 : ¬ 9223372036854775807 < 3 + iz.length + 1 := by omega
      have g3 : ¬ 9223372036854775807 < 3 + iz.length + 1 + cd.length := by omega
      have g4 : ¬ 9223372036854775807 < 3 + iz.length + 1 + cd.length + 2 := by omega
      have g5 : ¬ 9223372036854775807 < 3 + iz.length + 1 + cd.length + 2 + la.length := by omega
      go_upto_region 13 with fail
      refine wp_region_held_drew (S := fun W => W.cell? ⟨X, 0, none⟩ = some (.int .u8 op) ∧ W.cell? ⟨X, 1, none⟩ = some (.bool nr) ∧ W.cell? ⟨X, 2, none⟩ = some (.int .i64 d) ∧ W.cell? ⟨X, 3, none⟩ = some (.int .i64 s) ∧ W.cell? ⟨X, 4, none⟩ = some (.bool u) ∧ W.cell? ⟨X, 5, none⟩ = some (.int .i64 o) ∧ W.cell? ⟨X, 6, none⟩ = some (.int .i64 m) ∧ W.cell? ⟨X, 7, none⟩ = some (.int .i64 z)) (by kernel_rfl) ⟨c0, c1, c2, c3, c4, c5, c6, c7⟩ (fun hS => ?_)
      have hx1 := Lib.hid (Bk.drew HX.out)
      have hb1 := Lib.hid HB.out.drew
      generalize (_ : World).drew = w1 at *
      refine wpAnyH_take (i := 0) (v := ?_) rfl (by kernel_rfl) (by kernel_rfl) (by kernel_rfl) (fun _ _ _ h => h) (Or.inl ⟨by rfl, ?_⟩) hS ?_
      rotate_left 1
      · intro w' hSw
        go_simp <;> with_reducible rfl
      try simp only [List.getElem_toArray, List.getElem_cons_zero, List.getElem_cons_succ, Act.put, List.setIfInBounds_toArray, List.set_cons_zero, List.set_cons_succ]
      refine wpAnyH_take (i := 1) (v := ?_) rfl (by kernel_rfl) (by kernel_rfl) (by kernel_rfl) (fun _ _ _ h => h) (Or.inl ⟨by rfl, ?_⟩) hS ?_
      rotate_left 1
      · intro w' hSw
        go_simp <;> with_reducible rfl
      try simp only [List.getElem_toArray, List.getElem_cons_zero, List.getElem_cons_succ, Act.put, List.setIfInBounds_toArray, List.set_cons_zero, List.set_cons_succ]
      refine wpAnyH_take (i := 5) (v := ?_) rfl (by kernel_rfl) (by kernel_rfl) (by kernel_rfl) (fun _ _ _ h => h) (Or.inl ⟨by rfl, ?_⟩) hS ?_
      rotate_left 1
      · intro w' hSw
        go_simp <;> with_reducible rfl
      try simp only [List.getElem_toArray, List.getElem_cons_zero, List.getElem_cons_succ, Act.put, List.setIfInBounds_toArray, List.set_cons_zero, List.set_cons_succ]
      refine wpAnyH_take (i := 6) (v := ?_) rfl (by kernel_rfl) (by kernel_rfl) (by kernel_rfl) (fun _ _ _ h => h) (Or.inl ⟨by rfl, ?_⟩) hS ?_
      rotate_left 1
      · intro w' hSw
        go_simp <;> with_reducible rfl
      try simp only [List.getElem_toArray, List.getElem_cons_zero, List.getElem_cons_succ, Act.put, List.setIfInBounds_toArray, List.set_cons_zero, List.set_cons_succ]
      refine wpAnyH_take (i := 7) (v := ?_) rfl (by kernel_rfl) (by kernel_rfl) (by kernel_rfl) (fun _ _ _ h => h) (Or.inl ⟨by rfl, ?_⟩) hS ?_
      rotate_left 1
      · intro w' hSw
        go_simp <;> with_reducible rfl
      try simp only [List.getElem_toArray, List.getElem_cons_zero, List.getElem_cons_succ, Act.put, List.setIfInBounds_toArray, List.set_cons_zero, List.set_cons_succ]
      refine wpAnyH_take (i := 8) (v := ?_) rfl (by kernel_rfl) (by kernel_rfl) (by kernel_rfl) (fun _ _ _ h => h) (Or.inl ⟨by rfl, ?_⟩) hS ?_
      rotate_left 1
      · intro w' hSw
        go_simp <;> with_reducible rfl
      try simp only [List.getElem_toArray, List.getElem_cons_zero, List.getElem_cons_succ, Act.put, List.setIfInBounds_toArray, List.set_cons_zero, List.set_cons_succ]
      refine wpAnyH_take (i := 12) (v := ?_) rfl (by kernel_rfl) (by kernel_rfl) (by kernel_rfl) (fun _ _ _ h => h) (Or.inl ⟨by rfl, ?_⟩) hS ?_
      rotate_left 1
      · intro w' hSw
        go_simp <;> with_reducible rfl
      try simp only [List.getElem_toArray, List.getElem_cons_zero, List.getElem_cons_succ, Act.put, List.setIfInBounds_toArray, List.set_cons_zero, List.set_cons_succ]
      refine wpAnyH_ready (rs := [2]) (by kernel_rfl) (by simp) (AllReadyH.cons rfl (fun K hK => ?_) AllReadyH.nil)
      go_simp
      (with_reducible refine (hit _ hb1.out).mono ?_)
      rintro _ w2 ⟨rfl, bb⟩
      have hx2 := Lib.hid ((hx1.out).below bb hx1.out.lt)
      have hb2 := Lib.hid (hb1.out.trans (bb.mono (hX ▸ hb1.out.size)))
      go_simp
      refine hK _ _ (sb_of hx2.out) (fun hS => ?_)
      clear hK K bb
      try simp only [List.getElem_toArray, List.getElem_cons_zero, List.getElem_cons_succ, Act.put, List.setIfInBounds_toArray, List.set_cons_zero, List.set_cons_succ]
      refine wpAnyH_take (i := 3) (v := ?_) rfl (by kernel_rfl) (by kernel_rfl) (by kernel_rfl) (fun _ _ _ h => h) (Or.inl ⟨by rfl, ?_⟩) hS ?_
      rotate_left 1
      · intro w' hSw
        go_simp <;> with_reducible rfl
      try simp only [List.getElem_toArray, List.getElem_cons_zero, List.getElem_cons_succ, Act.put, List.setIfInBounds_toArray, List.set_cons_zero, List.set_cons_succ]
      refine wpAnyH_take (i := 4) (v := ?_) rfl (by kernel_rfl) (by kernel_rfl) (by kernel_rfl) (fun _ _ _ h => h) (Or.inl ⟨by rfl, ?_⟩) hS ?_
      rotate_left 1
      · intro w' hSw
        go_simp <;> with_reducible rfl
      try simp only [List.getElem_toArray, List.getElem_cons_zero, List.getElem_cons_succ, Act.put, List.setIfInBounds_toArray, List.set_cons_zero, List.set_cons_succ]
      refine wpAnyH_ready (rs := [9]) (by kernel_rfl) (by simp) (AllReadyH.cons rfl (fun K hK => ?_) AllReadyH.nil)
      go_simp
      (with_reducible refine (hcd _ hb2.out).mono ?_)
      rintro _ w3 ⟨rfl, bb⟩
      have hx3 := Lib.hid ((hx2.out).below bb hx2.out.lt)
      have hb3 := Lib.hid (hb2.out.trans (bb.mono (hX ▸ hb2.out.size)))
      go_simp
      refine hK _ _ (sb_of hx3.out) (fun hS => ?_)
      clear hK K bb
      try simp only [List.getElem_toArray, List.getElem_cons_zero, List.getElem_cons_succ, Act.put, List.setIfInBounds_toArray, List.set_cons_zero, List.set_cons_succ]
      refine wpAnyH_take (i := 10) (v := ?_) rfl (by kernel_rfl) (by kernel_rfl) (by kernel_rfl) (fun _ _ _ h => h) (Or.inl ⟨by rfl, ?_⟩) hS ?_
      rotate_left 1
      · intro w' hSw
        go_simp <;> with_reducible rfl
      try simp only [List.getElem_toArray, List.getElem_cons_zero, List.getElem_cons_succ, Act.put, List.setIfInBounds_toArray, List.set_cons_zero, List.set_cons_succ]
      refine wpAnyH_take (i := 11) (v := ?_) rfl (by kernel_rfl) (by kernel_rfl) (by kernel_rfl) (fun _ _ _ h => h) (Or.inl ⟨by rfl, ?_⟩) hS ?_
      rotate_left 1
      · intro w' hSw
        go_simp <;> with_reducible rfl
      try simp only [List.getElem_toArray, List.getElem_cons_zero, List.getElem_cons_succ, Act.put, List.setIfInBounds_toArray, List.set_cons_zero, List.set_cons_succ]
      refine wpAnyH_ready (rs := [13]) (by kernel_rfl) (by simp) (AllReadyH.cons rfl (fun K hK => ?_) AllReadyH.nil)
      go_simp
      (with_reducible refine (hla _ hb3.out).mono ?_)
      rintro _ w4 ⟨rfl, bb⟩
      have hx4 := Lib.hid ((hx3.out).below bb hx3.out.lt)
      have hb4 := Lib.hid (hb3.out.trans (bb.mono (hX ▸ hb3.out.size)))
      go_simp
      refine hK _ _ (sb_of hx4.out) (fun hS => ?_)
      clear hK K bb
      try simp only [List.getElem_toArray, List.getElem_cons_zero, List.getElem_cons_succ, Act.put, List.setIfInBounds_toArray, List.set_cons_zero, List.set_cons_succ]
      refine wpAnyH_take (i := 14) (v := ?_) rfl (by kernel_rfl) (by kernel_rfl) (by kernel_rfl) (fun _ _ _ h => h) (Or.inl ⟨by rfl, ?_⟩) hS ?_
      rotate_left 1
      · intro w' hSw
        go_simp <;> with_reducible rfl
      try simp only [List.getElem_toArray, List.getElem_cons_zero, List.getElem_cons_succ, Act.put, List.setIfInBounds_toArray, List.set_cons_zero, List.set_cons_succ]
      refine wpAnyH_take (i := 15) (v := ?_) rfl (by kernel_rfl) (by kernel_rfl) (by kernel_rfl) (fun _ _ _ h => h) (Or.inl ⟨by rfl, ?_⟩) hS ?_
      rotate_left 1
      · intro w' hSw
        go_simp <;> with_reducible rfl
      try simp only [List.getElem_toArray, List.getElem_cons_zero, List.getElem_cons_succ, Act.put, List.setIfInBounds_toArray, List.set_cons_zero, List.set_cons_succ]
      refine wpAnyH_done (by kernel_rfl) ?_ _
      go_wp2_with fail
      go_ret
      refine ⟨?_, by first | exact hb4.out | (rw [hX]; exact hb4.out)⟩
      rw [HSH.out]
      show Ending.returned (Value.string _) = Ending.returned (Value.string _)
      congr 2
      all_goals (apply Go.WideShapes.bytes_inj; simp [loadW, putW, jumpW])
    · have H := Lib.hid h
      clear h
      have d28 : decide (op = 28) = false := decide_eq_false (by have := H.out; omega)
      have e28 : (op == 28) = false := by have := H.out; simp; omega
      have d16 : decide (op = 16) = true := decide_eq_true (by have := H.out; omega)
      have e16 : (op == 16) = true := by have := H.out; simp; omega
      have HSH := Lib.hid (show showI ⟨op, nr, d, s, u, o, m, z⟩ = jumpW ++ 32 :: apartS o [] by
        unfold showI
        have h := H.out
        simp only [h, show (16 : Int) ≠ 28 by decide, if_false, if_true])
      generalize regN d = rg at *
      generalize lastS ⟨op, nr, d, s, u, o, m, z⟩ = la at *
      generalize apartS o [] = ap at *
      generalize cellS s o = ce at *
      generalize cellS d o = cd at *
      generalize Lib.itoa z = iz at *
      clear HFF
      have g1 : ¬ 9223372036854775807 < 5 + ap.length := by omega
      go_upto_region 9 with fail
      go_wp2_with fail
      (with_reducible refine (hfa _ HB.out).mono ?_)
      rintro _ w2 ⟨rfl, b2⟩
      have hb2 := Lib.hid (HB.out.trans (b2.mono (hX ▸ HB.out.size)))
      go_wp2_with fail
      go_ret
      refine ⟨?_, by first | exact hb2.out | (rw [hX]; exact hb2.out)⟩
      rw [HSH.out]
      show Ending.returned (Value.string _) = Ending.returned (Value.string _)
      congr 2
      all_goals (apply Go.WideShapes.bytes_inj; simp [loadW, putW, jumpW])
    · have H := Lib.hid h
      clear h
      have d28 : decide (op = 28) = false := decide_eq_false (by have := H.out; omega)
      have e28 : (op == 28) = false := by have := H.out; simp; omega
      have d16 : decide (op = 16) = false := decide_eq_false (by have := H.out; omega)
      have e16 : (op == 16) = false := by have := H.out; simp; omega
      have d14 : decide (op = 14) = false := decide_eq_false (by have := H.out; omega)
      have e14 : (op == 14) = false := by have := H.out; simp; omega
      have d15 : decide (op = 15) = false := decide_eq_false (by have := H.out; omega)
      have e15 : (op == 15) = false := by have := H.out; simp; omega
      have d13 : decide (op = 13) = false := decide_eq_false (by have := H.out; omega)
      have e13 : (op == 13) = false := by have := H.out; simp; omega
      have d17 : decide ((17 : Int) ≤ op) = true := decide_eq_true (by have := H.out; omega)
      have HSH := Lib.hid (show showI ⟨op, nr, d, s, u, o, m, z⟩ = fs ++ 32 :: (regN d ++ 44 :: 32 :: (lastS ⟨op, nr, d, s, u, o, m, z⟩ ++ 44 :: 32 :: apartS o [])) by
        rw [HFF.out (by have := H.out; omega)]
        unfold showI
        have h := H.out
        simp only [show op ≠ 28 by omega, show op ≠ 16 by omega, show op ≠ 14 by omega, show op ≠ 15 by omega, show op ≠ 13 by omega, show 17 ≤ op by omega, if_false, if_true, List.append_nil])
      generalize regN d = rg at *
      generalize lastS ⟨op, nr, d, s, u, o, m, z⟩ = la at *
      generalize apartS o [] = ap at *
      generalize cellS s o = ce at *
      generalize cellS d o = cd at *
      generalize Lib.itoa z = iz at *
      clear HFF
      have g1 : ¬ 9223372036854775807 < fs.length + 1 := by omega
      have g2 : ¬ 9223372036854775807 < fs.length + 1 + rg.length := by omega
      have g3 : ¬ 9223372036854775807 < fs.length + 1 + rg.length + 2 := by omega
      have g4 : ¬ 9223372036854775807 < fs.length + 1 + rg.length + 2 + la.length := by omega
      have g5 : ¬ 9223372036854775807 < fs.length + 1 + rg.length + 2 + la.length + 2 := by omega
      have g6 : ¬ 9223372036854775807 < fs.length + 1 + rg.length + 2 + la.length + 2 + ap.length := by omega
      go_upto_region 17 with fail
      refine wp_region_held_drew (S := fun W => W.cell? ⟨X, 0, none⟩ = some (.int .u8 op) ∧ W.cell? ⟨X, 1, none⟩ = some (.bool nr) ∧ W.cell? ⟨X, 2, none⟩ = some (.int .i64 d) ∧ W.cell? ⟨X, 3, none⟩ = some (.int .i64 s) ∧ W.cell? ⟨X, 4, none⟩ = some (.bool u) ∧ W.cell? ⟨X, 5, none⟩ = some (.int .i64 o) ∧ W.cell? ⟨X, 6, none⟩ = some (.int .i64 m) ∧ W.cell? ⟨X, 7, none⟩ = some (.int .i64 z)) (by kernel_rfl) ⟨c0, c1, c2, c3, c4, c5, c6, c7⟩ (fun hS => ?_)
      have hx1 := Lib.hid (Bk.drew HX.out)
      have hb1 := Lib.hid HB.out.drew
      generalize (_ : World).drew = w1 at *
      refine wpAnyH_take (i := 0) (v := ?_) rfl (by kernel_rfl) (by kernel_rfl) (by kernel_rfl) (fun _ _ _ h => h) (Or.inl ⟨by rfl, ?_⟩) hS ?_
      rotate_left 1
      · intro w' hSw
        go_simp <;> with_reducible rfl
      try simp only [List.getElem_toArray, List.getElem_cons_zero, List.getElem_cons_succ, Act.put, List.setIfInBounds_toArray, List.set_cons_zero, List.set_cons_succ]
      refine wpAnyH_take (i := 1) (v := ?_) rfl (by kernel_rfl) (by kernel_rfl) (by kernel_rfl) (fun _ _ _ h => h) (Or.inl ⟨by rfl, ?_⟩) hS ?_
      rotate_left 1
      · intro w' hSw
        go_simp <;> with_reducible rfl
      try simp only [List.getElem_toArray, List.getElem_cons_zero, List.getElem_cons_succ, Act.put, List.setIfInBounds_toArray, List.set_cons_zero, List.set_cons_succ]
      refine wpAnyH_take (i := 2) (v := ?_) rfl (by kernel_rfl) (by kernel_rfl) (by kernel_rfl) (fun _ _ _ h => h) (Or.inl ⟨by rfl, ?_⟩) hS ?_
      rotate_left 1
      · intro w' hSw
        go_simp <;> with_reducible rfl
      try simp only [List.getElem_toArray, List.getElem_cons_zero, List.getElem_cons_succ, Act.put, List.setIfInBounds_toArray, List.set_cons_zero, List.set_cons_succ]
      refine wpAnyH_take (i := 3) (v := ?_) rfl (by kernel_rfl) (by kernel_rfl) (by kernel_rfl) (fun _ _ _ h => h) (Or.inl ⟨by rfl, ?_⟩) hS ?_
      rotate_left 1
      · intro w' hSw
        go_simp <;> with_reducible rfl
      try simp only [List.getElem_toArray, List.getElem_cons_zero, List.getElem_cons_succ, Act.put, List.setIfInBounds_toArray, List.set_cons_zero, List.set_cons_succ]
      refine wpAnyH_take (i := 7) (v := ?_) rfl (by kernel_rfl) (by kernel_rfl) (by kernel_rfl) (fun _ _ _ h => h) (Or.inl ⟨by rfl, ?_⟩) hS ?_
      rotate_left 1
      · intro w' hSw
        go_simp <;> with_reducible rfl
      try simp only [List.getElem_toArray, List.getElem_cons_zero, List.getElem_cons_succ, Act.put, List.setIfInBounds_toArray, List.set_cons_zero, List.set_cons_succ]
      refine wpAnyH_take (i := 11) (v := ?_) rfl (by kernel_rfl) (by kernel_rfl) (by kernel_rfl) (fun _ _ _ h => h) (Or.inl ⟨by rfl, ?_⟩) hS ?_
      rotate_left 1
      · intro w' hSw
        go_simp <;> with_reducible rfl
      try simp only [List.getElem_toArray, List.getElem_cons_zero, List.getElem_cons_succ, Act.put, List.setIfInBounds_toArray, List.set_cons_zero, List.set_cons_succ]
      refine wpAnyH_take (i := 12) (v := ?_) rfl (by kernel_rfl) (by kernel_rfl) (by kernel_rfl) (fun _ _ _ h => h) (Or.inl ⟨by rfl, ?_⟩) hS ?_
      rotate_left 1
      · intro w' hSw
        go_simp <;> with_reducible rfl
      try simp only [List.getElem_toArray, List.getElem_cons_zero, List.getElem_cons_succ, Act.put, List.setIfInBounds_toArray, List.set_cons_zero, List.set_cons_succ]
      refine wpAnyH_ready (rs := [4]) (by kernel_rfl) (by simp) (AllReadyH.cons rfl (fun K hK => ?_) AllReadyH.nil)
      go_simp
      (with_reducible refine (hnm _ hb1.out).mono ?_)
      rintro _ w2 ⟨rfl, bb⟩
      have hx2 := Lib.hid ((hx1.out).below bb hx1.out.lt)
      have hb2 := Lib.hid (hb1.out.trans (bb.mono (hX ▸ hb1.out.size)))
      go_simp
      refine hK _ _ (sb_of hx2.out) (fun hS => ?_)
      clear hK K bb
      try simp only [List.getElem_toArray, List.getElem_cons_zero, List.getElem_cons_succ, Act.put, List.setIfInBounds_toArray, List.set_cons_zero, List.set_cons_succ]
      refine wpAnyH_take (i := 5) (v := ?_) rfl (by kernel_rfl) (by kernel_rfl) (by kernel_rfl) (fun _ _ _ h => h) (Or.inl ⟨by rfl, ?_⟩) hS ?_
      rotate_left 1
      · intro w' hSw
        go_simp <;> with_reducible rfl
      try simp only [List.getElem_toArray, List.getElem_cons_zero, List.getElem_cons_succ, Act.put, List.setIfInBounds_toArray, List.set_cons_zero, List.set_cons_succ]
      refine wpAnyH_take (i := 6) (v := ?_) rfl (by kernel_rfl) (by kernel_rfl) (by kernel_rfl) (fun _ _ _ h => h) (Or.inl ⟨by rfl, ?_⟩) hS ?_
      rotate_left 1
      · intro w' hSw
        go_simp <;> with_reducible rfl
      try simp only [List.getElem_toArray, List.getElem_cons_zero, List.getElem_cons_succ, Act.put, List.setIfInBounds_toArray, List.set_cons_zero, List.set_cons_succ]
      refine wpAnyH_ready (rs := [8]) (by kernel_rfl) (by simp) (AllReadyH.cons rfl (fun K hK => ?_) AllReadyH.nil)
      go_simp
      (with_reducible refine (hla _ hb2.out).mono ?_)
      rintro _ w3 ⟨rfl, bb⟩
      have hx3 := Lib.hid ((hx2.out).below bb hx2.out.lt)
      have hb3 := Lib.hid (hb2.out.trans (bb.mono (hX ▸ hb2.out.size)))
      go_simp
      refine hK _ _ (sb_of hx3.out) (fun hS => ?_)
      clear hK K bb
      try simp only [List.getElem_toArray, List.getElem_cons_zero, List.getElem_cons_succ, Act.put, List.setIfInBounds_toArray, List.set_cons_zero, List.set_cons_succ]
      refine wpAnyH_take (i := 9) (v := ?_) rfl (by kernel_rfl) (by kernel_rfl) (by kernel_rfl) (fun _ _ _ h => h) (Or.inl ⟨by rfl, ?_⟩) hS ?_
      rotate_left 1
      · intro w' hSw
        go_simp <;> with_reducible rfl
      try simp only [List.getElem_toArray, List.getElem_cons_zero, List.getElem_cons_succ, Act.put, List.setIfInBounds_toArray, List.set_cons_zero, List.set_cons_succ]
      refine wpAnyH_take (i := 10) (v := ?_) rfl (by kernel_rfl) (by kernel_rfl) (by kernel_rfl) (fun _ _ _ h => h) (Or.inl ⟨by rfl, ?_⟩) hS ?_
      rotate_left 1
      · intro w' hSw
        go_simp <;> with_reducible rfl
      try simp only [List.getElem_toArray, List.getElem_cons_zero, List.getElem_cons_succ, Act.put, List.setIfInBounds_toArray, List.set_cons_zero, List.set_cons_succ]
      refine wpAnyH_ready (rs := [13]) (by kernel_rfl) (by simp) (AllReadyH.cons rfl (fun K hK => ?_) AllReadyH.nil)
      go_simp
      (with_reducible refine (hfa _ hb3.out).mono ?_)
      rintro _ w4 ⟨rfl, bb⟩
      have hx4 := Lib.hid ((hx3.out).below bb hx3.out.lt)
      have hb4 := Lib.hid (hb3.out.trans (bb.mono (hX ▸ hb3.out.size)))
      go_simp
      refine hK _ _ (sb_of hx4.out) (fun hS => ?_)
      clear hK K bb
      try simp only [List.getElem_toArray, List.getElem_cons_zero, List.getElem_cons_succ, Act.put, List.setIfInBounds_toArray, List.set_cons_zero, List.set_cons_succ]
      refine wpAnyH_take (i := 14) (v := ?_) rfl (by kernel_rfl) (by kernel_rfl) (by kernel_rfl) (fun _ _ _ h => h) (Or.inl ⟨by rfl, ?_⟩) hS ?_
      rotate_left 1
      · intro w' hSw
        go_simp <;> with_reducible rfl
      try simp only [List.getElem_toArray, List.getElem_cons_zero, List.getElem_cons_succ, Act.put, List.setIfInBounds_toArray, List.set_cons_zero, List.set_cons_succ]
      refine wpAnyH_take (i := 15) (v := ?_) rfl (by kernel_rfl) (by kernel_rfl) (by kernel_rfl) (fun _ _ _ h => h) (Or.inl ⟨by rfl, ?_⟩) hS ?_
      rotate_left 1
      · intro w' hSw
        go_simp <;> with_reducible rfl
      try simp only [List.getElem_toArray, List.getElem_cons_zero, List.getElem_cons_succ, Act.put, List.setIfInBounds_toArray, List.set_cons_zero, List.set_cons_succ]
      refine wpAnyH_done (by kernel_rfl) ?_ _
      go_wp2_with fail
      go_ret
      refine ⟨?_, by first | exact hb4.out | (rw [hX]; exact hb4.out)⟩
      rw [HSH.out]
      show Ending.returned (Value.string _) = Ending.returned (Value.string _)
      congr 2
      all_goals (apply Go.WideShapes.bytes_inj; simp [loadW, putW, jumpW])
    · have H := Lib.hid h
      clear h
      have d28 : decide (op = 28) = true := decide_eq_true (by have := H.out; omega)
      have e28 : (op == 28) = true := by have := H.out; simp; omega
      have HSH := Lib.hid (show showI ⟨op, nr, d, s, u, o, m, z⟩ = exitW by
        unfold showI
        have h := H.out
        simp only [h, if_true])
      go_wp2_with fail
      go_ret
      refine ⟨?_, by first | exact HB.out | (rw [hX]; exact HB.out)⟩
      rw [HSH.out]
      rfl
end Go.Proofs.YtjebjninlejoeaaGreatDoor
namespace Go.Proofs.YtjebjninlejoeaaGreatDoor
open Go.RowKit Go.Maps Go.ChangeMaps
set_option linter.unusedVariables false
set_option linter.unusedSimpArgs false
set_option linter.unusedSectionVars false
set_option maxRecDepth 100000

theorem info_u8 : ∃ i0 : TypeInfo, Tryz.prog.info? 5 = some i0 ∧ i0.zero = some (.int .u8 0) ∧ i0.size = 1 ∧ i0.bytes = 1 := ⟨_, rfl, rfl, rfl, rfl⟩
/-- Bytes as cells. -/
def bcs (s : Nm) : List Value := s.map fun b => Value.int .u8 b.toNat
theorem bcs_len (s : Nm) : (bcs s).length = s.length := by simp [bcs]
theorem bcs_app (s t : Nm) : bcs (s ++ t) = bcs s ++ bcs t := by simp [bcs]
theorem str_bcs (s : Nm) : Lib.strCells ⟨s.toArray⟩ = bcs s := by simp [Lib.strCells, bcs]
theorem conv_own {W : World} {D : Nat} {v : Value} (s : Nm) (h : W.ownsRow D 5 1 v s.length (bcs s)) : (convert 49 9 v).run Tryz.prog W = .ok (.string ⟨s.toArray⟩) W := by
  rcases h.2 with ⟨rfl, h0⟩ | ⟨g, cap, cur, hv, _⟩
  · obtain rfl : s = [] := List.eq_nil_of_length_eq_zero h0
    exact Lib.run_convert_nil_bytes W 49 9 5 0 Tryz.underlying49 Tryz.underlying5 Tryz.underlying9
  · have hcells := h.cells (g := g) (by rw [hv]; rfl)
    rw [hv]
    refine run_convert_bytes_back (P := Tryz.prog) W 49 9 5 ⟨g, 0, none⟩ cap s Tryz.underlying49 Tryz.underlying5 Tryz.underlying9 (fun j hj => ?_)
    exact hcells j (.int .u8 (s[j]).toNat) (by simp [bcs, hj])
set_option maxHeartbeats 4000000 in
theorem rshow_any {B : Nat} {K : Nat → Prop} (A : Option Addr) (c : Nat) (l : List IV) (hlen : l.length ≤ 1000000) (w : World) (h : Ivs w K A c l) (hv : Tv B w) (hB : B ≤ w.heap.size) : Calls Tryz.prog 14 #[.slice A l.length c] w fun e w' => e = .returned (.tuple #[.string ⟨(showR l).1.toArray⟩, .int .i64 (showR l).2]) ∧ Below w.heap.size w w' := by
  by_cases h1 : 4096 < l.length
  · have HR : Hid (showR l = ([], 3)) := Lib.hid (by unfold showR; rw [if_pos h1])
    have d1 : decide ((4096 : Int) < (l.length : Int)) = true := decide_eq_true (by omega)
    go_enter Tryz.func14, Tryz.ntmps14
    go_wp2_with fail
    go_ret2
    exact ⟨by rw [HR.out]; rfl, Below.refl _ _⟩
  · have HI := Lib.hid h
    have d1 : decide ((4096 : Int) < (l.length : Int)) = false := decide_eq_false (by omega)
    have hl2 : l.length ≤ 4096 := by omega
    have HBAD := Lib.hid (show ∀ (k : Nat) x, l[k]? = some x → rightP x = false → showR l = ([], 4) from fun k x hx hr => by
      unfold showR
      rw [if_neg h1]
      cases ha : l.all rightP with
      | true => rw [List.all_eq_true] at ha; rw [ha x (List.mem_of_getElem? hx)] at hr; cases hr
      | false => rfl)
    have HGOOD := Lib.hid (show (∀ (k : Nat), k < l.length → ∀ x, l[k]? = some x → rightP x = true) → showR l = (showP l, 0) from fun hall => by
      unfold showR
      rw [if_neg h1, if_pos]
      rw [List.all_eq_true]
      intro x hx
      obtain ⟨k, hk, rfl⟩ := List.mem_iff_getElem.1 hx
      exact hall k hk _ (List.getElem?_eq_getElem hk))
    clear h h1
    obtain ⟨i0, hi0, hz0, hz1, hz2⟩ := info_u8
    go_enter Tryz.func14, Tryz.ntmps14
    go_wp2_with fail
    go_loopw [4] (fun i wr => ∃ k : Nat, k ≤ l.length ∧ i = .int .i64 k ∧ Hid (Below w.heap.size w wr) ∧ Hid (∀ j, j < k → ∀ x, l[j]? = some x → rightP x = true)) (fun i _ => l.length - (intOf i).toNat)
    case atStart => exact ⟨0, Nat.zero_le _, rfl, Lib.hid (Below.refl _ _), Lib.hid (fun j hj => absurd hj (Nat.not_lt_zero _))⟩
    case round =>
      obtain ⟨k, hk, rfl, HB, HA⟩ := hrel
      by_cases hlt : k < l.length
      · have d2 : decide ((k : Int) < (l.length : Int)) = true := decide_eq_true (by omega)
        obtain ⟨x, hx⟩ : ∃ x, l[k]? = some x := ⟨l[k], List.getElem?_eq_getElem hlt⟩
        obtain ⟨g, o, rfl, e0, e1, e2, e3, e4, e5, e6, e7⟩ := (HI.out.below HB.out).at_ hx
        have q1 : (0 : Int) ≤ (k : Int) := by omega
        have q2 : (k : Int) < (l.length : Int) := by omega
        have hrt := fun W => rright_any x W
        have HX := Lib.hid hx
        clear hx
        obtain ⟨x0, x1, x2, x3, x4, x5, x6, x7⟩ := x
        simp only [ivV] at hrt e0 e1 e2 e3 e4 e5 e6 e7
        cases hr : rightP ⟨x0, x1, x2, x3, x4, x5, x6, x7⟩ with
        | false =>
          rw [hr] at hrt
          have HR := Lib.hid (HBAD.out k _ HX.out hr)
          clear hr
          go_wp2_with fail
          (with_reducible refine (hrt _).mono ?_)
          rintro _ w2 ⟨rfl, b2⟩
          have HB2 := Lib.hid (HB.out.trans (b2.mono HB.out.size))
          go_wp2_with fail
          go_ret2
          exact ⟨by rw [HR.out]; rfl, HB2.out⟩
        | true =>
          rw [hr] at hrt
          have HA2 := Lib.hid (show ∀ j, j < k + 1 → ∀ x, l[j]? = some x → rightP x = true from fun j hj x hx => by
            by_cases e : j = k
            · subst e; rw [HX.out] at hx; injection hx with hx; rw [← hx]; exact hr
            · exact HA.out j (by omega) x hx)
          clear hr HA
          go_wp2_with fail
          (with_reducible refine (hrt _).mono ?_)
          rintro _ w2 ⟨rfl, b2⟩
          have HB2 := Lib.hid (HB.out.trans (b2.mono HB.out.size))
          clear hrt b2 HB
          go_wp2_with fail
          go_roundw
          case rel => exact ⟨k + 1, by omega, by go_num, HB2, HA2⟩
          case measure => simp [intOf]; omega
      · have d2 : decide ((k : Int) < (l.length : Int)) = false := decide_eq_false (by omega)
        obtain rfl : k = l.length := by omega
        have HR := Lib.hid (HGOOD.out HA.out)
        have HAL := HA
        clear HA HBAD HGOOD
        go_wp2_with fail
        go_loopw [5, 6] (fun v i wx => ∃ (vv : Value) (k : Nat), v = vv ∧ k ≤ l.length ∧ i = .int .i64 k ∧ Hid (wx.ownsRow w.heap.size 5 1 vv (showP (l.take k)).length (bcs (showP (l.take k)))) ∧ Hid (Below w.heap.size w wx)) (fun _ i _ => l.length - (intOf i).toNat)
        case atStart => exact ⟨_, 0, rfl, Nat.zero_le _, rfl, Lib.hid (by simpa [showP, bcs] using World.ownsRow_nil _ _ _ _), HB⟩
        case round =>
          clear HB hlt hk d2
          obtain ⟨vv, k, rfl, hk, rfl, HO, HB⟩ := hrel
          by_cases hlt : k < l.length
          · have d2 : decide ((k : Int) < (l.length : Int)) = true := decide_eq_true (by omega)
            obtain ⟨x, hx⟩ : ∃ x, l[k]? = some x := ⟨l[k], List.getElem?_eq_getElem hlt⟩
            obtain ⟨g, o, rfl, e0, e1, e2, e3, e4, e5, e6, e7⟩ := (HI.out.below HB.out).at_ hx
            have q1 : (0 : Int) ≤ (k : Int) := by omega
            have q2 : (k : Int) < (l.length : Int) := by omega
            have hr := HAL.out k hlt x hx
            have hon := fun W (hW : Below w.heap.size w W) => rone_any x hr W (hv.below hW hB) (Nat.le_trans hB hW.size)
            have HST := Lib.hid (showP_take hx)
            have hsl := show_len hr
            have hpl : (showP (l.take k)).length ≤ 61 * 4096 := by
              have h9 := showP_len (l.take k) (fun y hy => by
                obtain ⟨j, hj, rfl⟩ := List.mem_iff_getElem.1 (List.mem_of_mem_take hy)
                exact HAL.out j hj _ (List.getElem?_eq_getElem hj))
              have : (l.take k).length ≤ 4096 := by rw [List.length_take]; omega
              have := Nat.mul_le_mul_left 61 this
              omega
            have HX := Lib.hid hx
            clear hx hr
            generalize showI x = sx at *
            obtain ⟨x0, x1, x2, x3, x4, x5, x6, x7⟩ := x
            simp only [ivV] at hon e0 e1 e2 e3 e4 e5 e6 e7
            have z1 : ¬ 9223372036854775807 < sx.length + 1 := by omega
            have hcat : ((⟨sx.toArray⟩ : ByteArray) ++ ⟨#[10]⟩) = ⟨(sx ++ [10]).toArray⟩ := cat_is sx [10]
            go_wp2_with fail
            (with_reducible refine (hon _ HB.out).mono ?_)
            rintro _ w2 ⟨rfl, b2⟩
            have HB2 := Lib.hid (HB.out.trans (b2.mono HB.out.size))
            have hown := own_keep HO.out fun g hg => b2.block g (HO.out.lt g hg).2
            clear hon b2 HB
            go_wp2_with (at_builtin; go_loud (refine Lib.wpList_append_own_string _ (by rfl) (.tmp 28) (.tmp 34) 49 9 (by rfl) w.heap.size 5 i0 Tryz.underlying49 Tryz.underlying9 hi0 hz0 hz1 hz2 _ (showP (l.take k)).length (bcs (showP (l.take k))) (by rfl) hown ⟨(sx ++ [10]).toArray⟩ (by first | rfl | (rw [← hcat]; rfl)) (by simp [ByteArray.size]; unfold maxLen; omega) (by simp [ByteArray.size]; omega) HB2.out.size ?_); intro v7 w7 hr7 hg7 hn7)
            have HB7 := Lib.hid (HB2.out.grown hg7 HB2.out.size (fun g e => (hown.lt g e).1))
            have HO7 := Lib.hid (show w7.ownsRow w.heap.size 5 1 v7 (showP (l.take (k + 1))).length (bcs (showP (l.take (k + 1)))) by
              rw [HST.out, bcs_app, List.length_append]
              rw [str_bcs] at hr7
              exact hr7)
            clear hown hr7 hg7 hn7 HO
            go_wp2_with fail
            go_roundw
            case rel => exact ⟨_, k + 1, rfl, by omega, by go_num, HO7, HB7⟩
            case measure => simp [intOf]; omega
          · have d2 : decide ((k : Int) < (l.length : Int)) = false := decide_eq_false (by omega)
            obtain rfl : k = l.length := by omega
            have HO2 := HO
            rw [List.take_length] at HO2
            have hcv := conv_own (showP l) HO2.out
            clear HO
            go_wp2_with fail
            go_ret2
            exact ⟨by rw [HR.out]; rfl, HB.out⟩
end Go.Proofs.YtjebjninlejoeaaGreatDoor
