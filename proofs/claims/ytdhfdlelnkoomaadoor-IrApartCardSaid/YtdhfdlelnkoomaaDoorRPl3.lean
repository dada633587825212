/- The kinds that load and write: over this seat's program. -/
import Derived.Test.YtdhfdlelnkoomaaDoorRPl2
import Derived.BigRegion
namespace Go.Proofs.YtdhfdlelnkoomaaDoor
open Go.RowKit
set_option linter.unusedVariables false
set_option maxRecDepth 100000
theorem pl_keeps2 (f : Ins) (i n : Int) (w w1 : World) (hb : Below (w.alloc (.cells (plC f i n) 46 (0, 0))).heap.size (w.alloc (.cells (plC f i n) 46 (0, 0))) w1) :
    (∀ j u, (plC f i n)[j]? = some u → w1.cell? ⟨w.heap.size, j, none⟩ = some u) ∧ Below w.heap.size w w1 := by
  have bx : w1.heap[w.heap.size]? = some (.cells (plC f i n) 46 (0, 0)) := (hb.block _ (by simp)).trans (heap_alloc_new w _)
  refine ⟨fun j u hu => (cell_of_row w1 _ j _ _ _ bx).trans hu, ?_⟩
  exact ((Below.refl _ _).alloc (Nat.le_refl _) _).trans (hb.mono (by simp))
theorem pl_lt (f : Ins) (i n : Int) (w w1 : World) (hb : Below (w.alloc (.cells (plC f i n) 46 (0, 0))).heap.size (w.alloc (.cells (plC f i n) 46 (0, 0))) w1) : w.heap.size < w1.heap.size := by
  have := hb.size; simp at this; omega
attribute [local go_sem high] eql_ins
set_option maxHeartbeats 4000000 in
theorem load_pl (f : Ins) (i n : Int) (r : Bool) (hr : Hid (r = (insE { bareI f with d := f.d, a := f.a, n := f.n, size := f.size } f && ([f.d, f.a].all regP && sizedP f.size)))) (w : World) : Calls Tryd.prog 34 #[plA f i n] w fun e w' => e = .returned (.bool r) ∧ Below w.heap.size w w' := by
  have hcon := fun W => bare_any f i n W
  simp only [plA, plV, insV, insA, bareI, List.cons_append, List.nil_append] at hcon
  unfold plA plV insV
  go_enter Tryd.func34, Tryd.ntmps34
  go_wp2_with fail
  refine (hcon _).mono ?_
  rintro _ w1 ⟨rfl, hb⟩
  obtain ⟨cc, hB⟩ := pl_keeps2 f i n w w1 hb
  have HB := Lib.hid hB
  simp only [plC] at cc
  have e0 := cc 0 _ rfl
  have e1 := cc 1 _ rfl
  have e2 := cc 2 _ rfl
  have e3 := cc 3 _ rfl
  have e4 := cc 4 _ rfl
  have e5 := cc 5 _ rfl
  have e6 := cc 6 _ rfl
  have e7 := cc 7 _ rfl
  have e8 := cc 8 _ rfl
  have e9 := cc 9 _ rfl
  have e10 := cc 10 _ rfl
  have z0 : w.heap.size < w1.heap.size := pl_lt f i n w w1 hb
  have z1 : w.heap.size < w1.heap.size + 1 := Nat.lt_succ_of_lt z0
  clear cc hb hB hcon
  go_wp2_with fail
  go_region
  by_cases hf : ({ bareI f with d := f.d, a := f.a, n := f.n, size := f.size } : Ins) = f
  · have hE := insE_t (show ({ bareI f with d := f.d, a := f.a, n := f.n, size := f.size } : Ins) = ⟨f.op, f.what, f.nar, f.d, f.a, f.b, f.n, f.size, f.to⟩ from hf)
    have HF : Hid ((insE { bareI f with d := f.d, a := f.a, n := f.n, size := f.size } f && ([f.d, f.a].all regP && sizedP f.size)) = (([f.d, f.a].all regP && sizedP f.size))) := Lib.hid (by rw [insE_t hf]; rfl)
    clear hf
    simp only [bareI] at hE
    go_wp2_with fail
    refine (regs_new [f.d, f.a] _ _ (by simp) (new2 _ _ _)).mono ?_
    rintro _ w2 ⟨rfl, rfl⟩
    obtain ⟨q, hq⟩ : ∃ q, q = [f.d, f.a].all regP := ⟨_, rfl⟩
    have HQ := Lib.hid hq
    rw [← hq]
    clear hq
    cases q
    · have HV : Hid (r = false) := Lib.hid (by rw [hr.out, HF.out, ← HQ.out]; rfl)
      go_wp2_with fail
      go_ret
      exact ⟨by rw [HV.out]; rfl, ((HB.out.alloc (by have := HB.out.size; omega) _).alloc (by have := HB.out.size; simp; omega) _).drew⟩
    · go_wp2_with fail
      refine ((sized_any f i n _ (Lib.hid rfl) _)).mono ?_
      rintro _ w3 ⟨rfl, hb3⟩
      obtain ⟨q3, hq3⟩ : ∃ q3, q3 = sizedP f.size := ⟨_, rfl⟩
      have HQ3 := Lib.hid hq3
      rw [← hq3]
      clear hq3
      have HV : Hid (r = q3) := Lib.hid (by rw [hr.out, HF.out]; rw [← HQ.out, HQ3.out]; rfl)
      go_wp2_with fail
      go_ret
      exact ⟨by rw [HV.out]; rfl, (((HB.out.alloc (by have := HB.out.size; omega) _).alloc (by have := HB.out.size; simp; omega) _).drew).trans (hb3.mono (by have := HB.out.size; simp; omega))⟩
  · have hE := insE_f (show ({ bareI f with d := f.d, a := f.a, n := f.n, size := f.size } : Ins) ≠ ⟨f.op, f.what, f.nar, f.d, f.a, f.b, f.n, f.size, f.to⟩ from hf)
    have HF : Hid ((insE { bareI f with d := f.d, a := f.a, n := f.n, size := f.size } f && ([f.d, f.a].all regP && sizedP f.size)) = false) := Lib.hid (by rw [insE_f hf]; rfl)
    clear hf
    simp only [bareI] at hE
    go_wp2_with fail
    go_ret
    exact ⟨by rw [hr.out, HF.out]; rfl, (HB.out.alloc (by have := HB.out.size; omega) _).drew⟩
set_option maxHeartbeats 4000000 in
theorem write_pl (f : Ins) (i n : Int) (r : Bool) (hr : Hid (r = (insE { bareI f with a := f.a, b := f.b, n := f.n, size := f.size } f && ([f.a, f.b].all regP && sizedP f.size)))) (w : World) : Calls Tryd.prog 35 #[plA f i n] w fun e w' => e = .returned (.bool r) ∧ Below w.heap.size w w' := by
  have hcon := fun W => bare_any f i n W
  simp only [plA, plV, insV, insA, bareI, List.cons_append, List.nil_append] at hcon
  unfold plA plV insV
  go_enter Tryd.func35, Tryd.ntmps35
  go_wp2_with fail
  refine (hcon _).mono ?_
  rintro _ w1 ⟨rfl, hb⟩
  obtain ⟨cc, hB⟩ := pl_keeps2 f i n w w1 hb
  have HB := Lib.hid hB
  simp only [plC] at cc
  have e0 := cc 0 _ rfl
  have e1 := cc 1 _ rfl
  have e2 := cc 2 _ rfl
  have e3 := cc 3 _ rfl
  have e4 := cc 4 _ rfl
  have e5 := cc 5 _ rfl
  have e6 := cc 6 _ rfl
  have e7 := cc 7 _ rfl
  have e8 := cc 8 _ rfl
  have e9 := cc 9 _ rfl
  have e10 := cc 10 _ rfl
  have z0 : w.heap.size < w1.heap.size := pl_lt f i n w w1 hb
  have z1 : w.heap.size < w1.heap.size + 1 := Nat.lt_succ_of_lt z0
  clear cc hb hB hcon
  go_wp2_with fail
  go_region
  by_cases hf : ({ bareI f with a := f.a, b := f.b, n := f.n, size := f.size } : Ins) = f
  · have hE := insE_t (show ({ bareI f with a := f.a, b := f.b, n := f.n, size := f.size } : Ins) = ⟨f.op, f.what, f.nar, f.d, f.a, f.b, f.n, f.size, f.to⟩ from hf)
    have HF : Hid ((insE { bareI f with a := f.a, b := f.b, n := f.n, size := f.size } f && ([f.a, f.b].all regP && sizedP f.size)) = (([f.a, f.b].all regP && sizedP f.size))) := Lib.hid (by rw [insE_t hf]; rfl)
    clear hf
    simp only [bareI] at hE
    go_wp2_with fail
    refine (regs_new [f.a, f.b] _ _ (by simp) (new2 _ _ _)).mono ?_
    rintro _ w2 ⟨rfl, rfl⟩
    obtain ⟨q, hq⟩ : ∃ q, q = [f.a, f.b].all regP := ⟨_, rfl⟩
    have HQ := Lib.hid hq
    rw [← hq]
    clear hq
    cases q
    · have HV : Hid (r = false) := Lib.hid (by rw [hr.out, HF.out, ← HQ.out]; rfl)
      go_wp2_with fail
      go_ret
      exact ⟨by rw [HV.out]; rfl, ((HB.out.alloc (by have := HB.out.size; omega) _).alloc (by have := HB.out.size; simp; omega) _).drew⟩
    · go_wp2_with fail
      refine ((sized_any f i n _ (Lib.hid rfl) _)).mono ?_
      rintro _ w3 ⟨rfl, hb3⟩
      obtain ⟨q3, hq3⟩ : ∃ q3, q3 = sizedP f.size := ⟨_, rfl⟩
      have HQ3 := Lib.hid hq3
      rw [← hq3]
      clear hq3
      have HV : Hid (r = q3) := Lib.hid (by rw [hr.out, HF.out]; rw [← HQ.out, HQ3.out]; rfl)
      go_wp2_with fail
      go_ret
      exact ⟨by rw [HV.out]; rfl, (((HB.out.alloc (by have := HB.out.size; omega) _).alloc (by have := HB.out.size; simp; omega) _).drew).trans (hb3.mono (by have := HB.out.size; simp; omega))⟩
  · have hE := insE_f (show ({ bareI f with a := f.a, b := f.b, n := f.n, size := f.size } : Ins) ≠ ⟨f.op, f.what, f.nar, f.d, f.a, f.b, f.n, f.size, f.to⟩ from hf)
    have HF : Hid ((insE { bareI f with a := f.a, b := f.b, n := f.n, size := f.size } f && ([f.a, f.b].all regP && sizedP f.size)) = false) := Lib.hid (by rw [insE_f hf]; rfl)
    clear hf
    simp only [bareI] at hE
    go_wp2_with fail
    go_ret
    exact ⟨by rw [hr.out, HF.out]; rfl, (HB.out.alloc (by have := HB.out.size; omega) _).drew⟩
end Go.Proofs.YtdhfdlelnkoomaaDoor
