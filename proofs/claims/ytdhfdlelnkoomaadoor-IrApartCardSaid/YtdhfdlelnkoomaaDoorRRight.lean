/- ir.Right: over this seat's program. -/
import Derived.Test.YtdhfdlelnkoomaaDoorRKinds
namespace Go.Proofs.YtdhfdlelnkoomaaDoor
open Go.RowKit Go.Shelf
set_option linter.unusedVariables false
set_option maxRecDepth 100000

theorem add_blk (a : Addr) (n : Nat) : (a.add n).block = a.block := by unfold Addr.add; split <;> rfl
theorem add_zero' (a : Addr) : a.add 0 = a := by unfold Addr.add; cases a; split <;> simp_all
theorem add_at (g j : Nat) : (⟨g, 0, none⟩ : Addr).add j = ⟨g, j, none⟩ := by unfold Addr.add; split <;> simp_all
theorem addS (b : Addr) (j : Nat) (h : 0 < j) : b.add j = ⟨b.block, b.off + j, none⟩ := by unfold Addr.add; rw [if_neg (by omega)]
theorem flat9 {w : World} {b : Addr} {f : Ins} (h : ∀ j, j < 9 → w.cell? (b.add j) = (insV f)[j]?) :
    w.cell? b = some (.int .u8 f.op) ∧ w.cell? ⟨b.block, b.off + 1, none⟩ = some (.int .u8 f.what) ∧ w.cell? ⟨b.block, b.off + 2, none⟩ = some (.bool f.nar) ∧ w.cell? ⟨b.block, b.off + 3, none⟩ = some (.int .i64 f.d) ∧ w.cell? ⟨b.block, b.off + 4, none⟩ = some (.int .i64 f.a) ∧
    w.cell? ⟨b.block, b.off + 5, none⟩ = some (.int .i64 f.b) ∧ w.cell? ⟨b.block, b.off + 6, none⟩ = some (.int .u64 f.n) ∧ w.cell? ⟨b.block, b.off + 7, none⟩ = some (.int .i64 f.size) ∧ w.cell? ⟨b.block, b.off + 8, none⟩ = some (.int .i64 f.to) := by
  have e0 := h 0 (by omega)
  rw [add_zero'] at e0
  exact ⟨e0, (congrArg _ (addS b 1 (by omega))).symm.trans (h 1 (by omega)), (congrArg _ (addS b 2 (by omega))).symm.trans (h 2 (by omega)), (congrArg _ (addS b 3 (by omega))).symm.trans (h 3 (by omega)), (congrArg _ (addS b 4 (by omega))).symm.trans (h 4 (by omega)),
    (congrArg _ (addS b 5 (by omega))).symm.trans (h 5 (by omega)), (congrArg _ (addS b 6 (by omega))).symm.trans (h 6 (by omega)), (congrArg _ (addS b 7 (by omega))).symm.trans (h 7 (by omega)), (congrArg _ (addS b 8 (by omega))).symm.trans (h 8 (by omega))⟩
theorem Inss.at_ {w : World} {K : Nat → Prop} {A : Option Addr} {xs : List Ins} {c : Nat} (h : Inss w K A c xs) {k : Nat} (hk : k < xs.length) :
    ∃ a x, A = some a ∧ K a.block ∧ Hid (xs[k]? = some x) ∧ ∀ j, j < 9 → w.cell? ((a.add (k * 9)).add j) = (insV x)[j]? := by
  obtain ⟨a, e, hb, hc⟩ := h.2.2.2 (by intro e; subst e; simp at hk)
  exact ⟨a, xs[k], e, hb, List.getElem?_eq_getElem hk, hc k _ (List.getElem?_eq_getElem hk)⟩
theorem right_f (xs : List Ins) (k : Nat) (f : Ins) (hf : xs[k]? = some f) (h : oneP f k xs.length = false) : rightP xs = false := by
  unfold rightP
  have hk := (List.getElem?_eq_some_iff.1 hf).1
  have : ((List.range xs.length).all fun i => oneP (xs.getD i default) i xs.length) = false := by
    rw [List.all_eq_false]
    refine ⟨k, List.mem_range.2 hk, ?_⟩
    rw [List.getD_eq_getElem?_getD, hf]
    simp [h]
  rw [this]; simp
theorem right_t (xs : List Ins) (h1 : 1 ≤ xs.length) (h2 : xs.length ≤ 16384) (hl : (xs.getLast?.map Ins.op == some 9) = true) (h : ∀ j, j < xs.length → oneP (xs.getD j default) j xs.length = true) : rightP xs = true := by
  unfold rightP
  rw [decide_eq_true ⟨h1, h2⟩, hl]
  have : ((List.range xs.length).all fun i => oneP (xs.getD i default) i xs.length) = true := by
    rw [List.all_eq_true]
    exact fun i hi => h i (List.mem_range.1 hi)
  rw [this]; rfl
theorem right_any (A : Option Addr) (c : Nat) (xs : List Ins) (w : World) (hI : Inss w (fun b => b < w.heap.size) A c xs) :
    Calls Tryd.prog 8 #[.slice A xs.length c] w fun e w' => e = .returned (.bool (rightP xs)) ∧ Below w.heap.size w w' := by
  obtain ⟨m1, m2, m3, m4⟩ := hI
  have hcap : xs.length ≤ 9223372036854775807 := by unfold maxLen at m3; omega
  have HI : Hid (Inss w (fun b => b < w.heap.size) A c xs) := Lib.hid ⟨m1, m2, m3, m4⟩
  clear m1 m2 m3 m4
  by_cases h0 : xs.length < 1
  · have d0 : decide (xs.length < 1) = true := decide_eq_true h0
    have HF : Hid (rightP xs = false) := Lib.hid (by unfold rightP; rw [decide_eq_false (by omega)]; rfl)
    go_enter Tryd.func8, Tryd.ntmps8
    go_wp2_with fail
    go_ret
    exact ⟨by rw [HF.out]; rfl, Below.refl _ _⟩
  by_cases h1 : 16384 < xs.length
  · have d1 : decide ((16384 : Int) < (xs.length : Int)) = true := decide_eq_true (by omega)
    have d0 : decide ((xs.length : Int) < 1) = false := decide_eq_false (by omega)
    have HF : Hid (rightP xs = false) := Lib.hid (by unfold rightP; rw [decide_eq_false (by omega)]; rfl)
    go_enter Tryd.func8, Tryd.ntmps8
    go_wp2_with fail
    go_ret
    exact ⟨by rw [HF.out]; rfl, Below.refl _ _⟩
  have d1 : decide ((16384 : Int) < (xs.length : Int)) = false := decide_eq_false (by omega)
  have d0 : decide ((xs.length : Int) < 1) = false := decide_eq_false (by omega)
  obtain ⟨a, x, rfl, ha, hx, hc⟩ := HI.out.at_ (k := xs.length - 1) (by omega)
  have c0 := hc 0 (by omega)
  simp only [insV, List.getElem?_cons_zero, add_zero'] at c0
  clear hc
  by_cases h9 : x.op = 9
  · have d9 : (x.op != 9) = false := by rw [h9]; rfl
    have HL : Hid ((xs.getLast?.map Ins.op == some 9) = true) := Lib.hid (by rw [List.getLast?_eq_getElem?, hx.out]; simp [h9])
    clear h9
    go_enter Tryd.func8, Tryd.ntmps8
    go_wp2_with fail
    refine (kinds_any w).mono ?_
    rintro e w1 ⟨rfl, hw1⟩
    have hB : Below w.heap.size w w1 := by rw [hw1]; exact (Below.refl _ _).alloc (Nat.le_refl _) _
    have hM : w1.heap[w.heap.size]? = some (.map kindEs.toArray 9) := by rw [hw1]; exact heap_alloc_new w _
    have HM := Lib.hid hM
    have HB := Lib.hid hB
    have hz : w.heap.size < w1.heap.size := by rw [hw1]; simp
    clear hw1 hM hB c0 d0 d1
    go_wp2_with fail
    go_loopw [29] (fun i wr => ∃ k : Nat, k ≤ xs.length ∧ i = .int .i64 k ∧ Hid (∀ j, j < k → oneP (xs.getD j default) j xs.length = true) ∧ Below w1.heap.size w1 wr) (fun i _ => xs.length - (intOf i).toNat)
    case atStart => exact ⟨0, Nat.zero_le _, rfl, Lib.hid (fun j hj => absurd hj (by omega)), Below.refl _ _⟩
    case round =>
      obtain ⟨k, hk, rfl, hA, hbr⟩ := hrel
      have hzr := hbr.size
      by_cases hlt : k < xs.length
      · have d1 : decide ((k : Int) < (xs.length : Int)) = true := decide_eq_true (by omega)
        obtain ⟨a', f, e', _, hf, hc⟩ := HI.out.at_ hlt
        injection e' with e'
        subst e'
        have hcw : ∀ j, j < 9 → wr.cell? ((a.add (k * 9)).add j) = (insV f)[j]? := fun j hj => ((hbr.cell (p := (a.add (k * 9)).add j) (by rw [add_blk, add_blk]; omega)).trans (HB.out.cell (by rw [add_blk, add_blk]; exact ha))).trans (hc j hj)
        obtain ⟨e0, e1, e2, e3, e4, e5, e6, e7, e8⟩ := flat9 hcw
        clear hc hcw
        have hmap : ∀ o, (wr.alloc o).heap[w.heap.size]? = some (.map kindEs.toArray 9) := fun o => (heap_alloc_old wr o (show w.heap.size < wr.heap.size by omega)).trans ((hbr.block _ hz).trans HM.out)
        rcases kind_is f with ⟨j, g, hj, hg, hq⟩ | ⟨hj, hq⟩
        · have hlk : ∀ o, (Instr.lookup 41 (.map (some w.heap.size)) (.int .u8 f.op) true).run Tryd.prog (wr.alloc o) = .ok (.tuple #[.func (.func g) #[] #[], .bool true]) (wr.alloc o) := fun o => look_hit_at Tryd.underlying41 Tryd.underlying31 _ _ _ _ (hmap o) _ _ _ hj
          have HQ := Lib.hid hq
          have HBR := Lib.hid hbr
          clear hj hmap hq hbr
          have hbl : (a.add (k * 9)).block < wr.heap.size := by rw [add_blk]; omega
          have HF' : ∀ y, xs.getD k default = y → y = f := fun y hy => by rw [← hy, List.getD_eq_getElem?_getD, hf.out]; rfl
          have HG := Lib.hid HF'
          clear HF'
          go_wp2_with fail
          refine (HQ.out _ _ _).mono ?_
          rintro _ w2 ⟨rfl, hb2⟩
          obtain ⟨q, hq⟩ : ∃ q, q = oneP f k xs.length := ⟨_, rfl⟩
          have HV := Lib.hid hq
          rw [← hq]
          clear hq
          have HB2 := Lib.hid hb2
          clear hb2
          cases q
          · go_wp2_with fail
            go_ret
            exact ⟨by rw [right_f xs k f hf.out HV.out.symm]; rfl, (((HB.out.trans (HBR.out.mono HB.out.size)).alloc (by omega) _)).trans (HB2.out.mono (by simp; omega))⟩
          · go_wp2_with fail
            go_roundw
            case rel => exact ⟨k + 1, by omega, by go_num, Lib.hid (fun j hj => by rcases Nat.lt_or_ge j k with h | h; (exact hA.out j h); (obtain rfl : j = k := by omega); rw [HG.out _ rfl]; exact HV.out.symm), ((HBR.out.alloc (by omega) _)).trans (HB2.out.mono (by simp; omega))⟩
            case measure => simp [intOf]; omega
        · have hlk : ∀ o, (Instr.lookup 41 (.map (some w.heap.size)) (.int .u8 f.op) true).run Tryd.prog (wr.alloc o) = .ok (.tuple #[.nilFunc, .bool false]) (wr.alloc o) := fun o => look_miss_at Tryd.underlying41 Tryd.underlying31 _ _ _ _ (hmap o) _ _ (fun w => by kernel_rfl) hj
          have HQ := Lib.hid hq
          have HBR := Lib.hid hbr
          clear hj hmap hq hbr
          go_wp2_with fail
          go_ret
          exact ⟨by rw [right_f xs k f hf.out (HQ.out _ _)]; rfl, (HB.out.trans (HBR.out.mono HB.out.size)).alloc (by omega) _⟩
      · have d1 : decide ((k : Int) < (xs.length : Int)) = false := decide_eq_false (by omega)
        go_wp2_with fail
        go_ret
        exact ⟨by rw [right_t xs (by omega) (by omega) HL.out (fun j hj => hA.out j (by omega))]; rfl, HB.out.trans (hbr.mono HB.out.size)⟩
  · have d9 : (x.op != 9) = true := by simpa using h9
    have HF : Hid (rightP xs = false) := Lib.hid (by
      unfold rightP
      rw [List.getLast?_eq_getElem?, hx.out]
      simp [h9])
    clear h9
    go_enter Tryd.func8, Tryd.ntmps8
    go_wp2_with fail
    go_ret
    exact ⟨by rw [HF.out]; rfl, Below.refl _ _⟩
end Go.Proofs.YtdhfdlelnkoomaaDoor
