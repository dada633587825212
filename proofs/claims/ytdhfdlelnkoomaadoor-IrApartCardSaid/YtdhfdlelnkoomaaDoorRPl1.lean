/- The kinds of an instruction, each method: over this seat's program. -/
import Derived.Test.YtdhfdlelnkoomaaDoorREq
import Derived.Outline
namespace Go.Proofs.YtdhfdlelnkoomaaDoor
open Go.RowKit
set_option linter.unusedVariables false
set_option maxRecDepth 100000
theorem new2 (w : World) (A B : Obj) : (((w.alloc A).alloc B).drew).heap[w.heap.size + 1]? = some B := by
  have := heap_alloc_new (w.alloc A) B
  show ((w.alloc A).alloc B).heap[w.heap.size + 1]? = some B
  simpa using this
theorem new2n (w : World) (A B : Obj) : (((w.alloc A).alloc B)).heap[w.heap.size + 1]? = some B := new2 w A B
theorem regs_new (l : List Int) (g : Nat) (w : World) (hl : l.length ≤ 100) (hb : w.heap[g]? = some (.cells (l.map fun z => Value.int .i64 z).toArray 3 (0, 0))) :
    Calls Tryd.prog 53 #[.slice (some ⟨g, 0, none⟩) l.length l.length] w fun e w' => e = .returned (.bool (l.all regP)) ∧ w = w' := by
  refine regs_any l ⟨g, 0, none⟩ l.length w (fun j z hj => ?_) hl (Nat.le_refl _)
  have := (cell_of_row w g j _ _ _ hb)
  rw [List.getElem?_toArray, List.getElem?_map, hj] at this
  show w.cell? (Addr.add ⟨g, 0, none⟩ j) = _
  rw [show Addr.add ⟨g, 0, none⟩ j = ⟨g, j, none⟩ by unfold Addr.add; split <;> simp_all]
  exact this
def plC (f : Ins) (i n : Int) : Array Value := #[.int .u8 f.op, .int .u8 f.what, .bool f.nar, .int .i64 f.d, .int .i64 f.a, .int .i64 f.b, .int .u64 f.n, .int .i64 f.size, .int .i64 f.to, .int .i64 i, .int .i64 n]
theorem pl_keeps (f : Ins) (i n : Int) (w w1 : World) (hb : Below (w.alloc (.cells (plC f i n) 46 (0, 0))).heap.size (w.alloc (.cells (plC f i n) 46 (0, 0))) w1) :
    (∀ j u, (plC f i n)[j]? = some u → ∀ o, (w1.alloc o).cell? ⟨w.heap.size, j, none⟩ = some u) ∧ Below w.heap.size w w1 := by
  have bx : w1.heap[w.heap.size]? = some (.cells (plC f i n) 46 (0, 0)) := (hb.block _ (by simp)).trans (heap_alloc_new w _)
  have hz : w.heap.size + 1 ≤ w1.heap.size := by have := hb.size; simpa using this
  refine ⟨fun j u hu o => (World.cell?_of_block (heap_alloc_old w1 o (show w.heap.size < w1.heap.size by omega))).trans ((cell_of_row w1 _ j _ _ _ bx).trans hu), ?_⟩
  exact ((Below.refl _ _).alloc (Nat.le_refl _) _).trans (hb.mono (by simp))
attribute [local go_sem high] eql_ins
set_option maxHeartbeats 4000000 in
theorem set_pl (f : Ins) (i n : Int) (r : Bool) (hr : Hid (r = (insE { bareI f with d := f.d, n := f.n } f && [f.d].all regP))) (w : World) : Calls Tryd.prog 31 #[plA f i n] w fun e w' => e = .returned (.bool r) ∧ Below w.heap.size w w' := by
  have hcon := fun W => bare_any f i n W
  simp only [plA, plV, insV, insA, bareI, List.cons_append, List.nil_append] at hcon
  unfold plA plV insV
  go_enter Tryd.func31, Tryd.ntmps31
  go_wp2_with fail
  refine (hcon _).mono ?_
  rintro _ w1 ⟨rfl, hb⟩
  obtain ⟨cc, hB⟩ := pl_keeps f i n w w1 hb
  have HB := Lib.hid hB
  simp only [plC] at cc
  have e0 := cc 0 _ rfl
  have e1 := cc 1 _ rfl
  have e2 := cc 2 _ rfl
  have e3 := cc 3 _ rfl
  have e4 := cc 4 _ rfl
  have e5 := cc 5 _ rfl
  have e6 := cc 6 _ rfl
  have e7 := cc 7 _ rfl
  have e8 := cc 8 _ rfl
  have e9 := cc 9 _ rfl
  have e10 := cc 10 _ rfl
  clear cc hb hB hcon
  go_wp2_with fail
  go_region
  by_cases hf : ({ bareI f with d := f.d, n := f.n } : Ins) = f
  · have hE := insE_t (show ({ bareI f with d := f.d, n := f.n } : Ins) = ⟨f.op, f.what, f.nar, f.d, f.a, f.b, f.n, f.size, f.to⟩ from hf)
    have HF : Hid ((insE { bareI f with d := f.d, n := f.n } f && [f.d].all regP) = ([f.d].all regP)) := Lib.hid (by rw [insE_t hf]; rfl)
    clear hf
    simp only [bareI] at hE
    go_wp2_with fail
    refine (regs_new [f.d] _ _ (by simp) (new2 _ _ _)).mono ?_
    rintro _ w2 ⟨rfl, rfl⟩
    obtain ⟨q, hq⟩ : ∃ q, q = [f.d].all regP := ⟨_, rfl⟩
    have HQ := Lib.hid hq
    rw [← hq]
    clear hq
    have HV : Hid (r = q) := Lib.hid (by rw [hr.out, HF.out]; exact HQ.out.symm)
    go_wp2_with fail
    go_ret
    exact ⟨by rw [HV.out]; rfl, ((HB.out.alloc (by have := HB.out.size; omega) _).alloc (by have := HB.out.size; simp; omega) _).drew⟩
  · have hE := insE_f (show ({ bareI f with d := f.d, n := f.n } : Ins) ≠ ⟨f.op, f.what, f.nar, f.d, f.a, f.b, f.n, f.size, f.to⟩ from hf)
    have HF : Hid ((insE { bareI f with d := f.d, n := f.n } f && [f.d].all regP) = false) := Lib.hid (by rw [insE_f hf]; rfl)
    clear hf
    simp only [bareI] at hE
    go_wp2_with fail
    go_ret
    exact ⟨by rw [hr.out, HF.out]; rfl, (HB.out.alloc (by have := HB.out.size; omega) _).drew⟩
set_option maxHeartbeats 4000000 in
theorem move_pl (f : Ins) (i n : Int) (r : Bool) (hr : Hid (r = (insE { bareI f with d := f.d, a := f.a } f && [f.d, f.a].all regP))) (w : World) : Calls Tryd.prog 32 #[plA f i n] w fun e w' => e = .returned (.bool r) ∧ Below w.heap.size w w' := by
  have hcon := fun W => bare_any f i n W
  simp only [plA, plV, insV, insA, bareI, List.cons_append, List.nil_append] at hcon
  unfold plA plV insV
  go_enter Tryd.func32, Tryd.ntmps32
  go_wp2_with fail
  refine (hcon _).mono ?_
  rintro _ w1 ⟨rfl, hb⟩
  obtain ⟨cc, hB⟩ := pl_keeps f i n w w1 hb
  have HB := Lib.hid hB
  simp only [plC] at cc
  have e0 := cc 0 _ rfl
  have e1 := cc 1 _ rfl
  have e2 := cc 2 _ rfl
  have e3 := cc 3 _ rfl
  have e4 := cc 4 _ rfl
  have e5 := cc 5 _ rfl
  have e6 := cc 6 _ rfl
  have e7 := cc 7 _ rfl
  have e8 := cc 8 _ rfl
  have e9 := cc 9 _ rfl
  have e10 := cc 10 _ rfl
  clear cc hb hB hcon
  go_wp2_with fail
  go_region
  by_cases hf : ({ bareI f with d := f.d, a := f.a } : Ins) = f
  · have hE := insE_t (show ({ bareI f with d := f.d, a := f.a } : Ins) = ⟨f.op, f.what, f.nar, f.d, f.a, f.b, f.n, f.size, f.to⟩ from hf)
    have HF : Hid ((insE { bareI f with d := f.d, a := f.a } f && [f.d, f.a].all regP) = ([f.d, f.a].all regP)) := Lib.hid (by rw [insE_t hf]; rfl)
    clear hf
    simp only [bareI] at hE
    go_wp2_with fail
    refine (regs_new [f.d, f.a] _ _ (by simp) (new2 _ _ _)).mono ?_
    rintro _ w2 ⟨rfl, rfl⟩
    obtain ⟨q, hq⟩ : ∃ q, q = [f.d, f.a].all regP := ⟨_, rfl⟩
    have HQ := Lib.hid hq
    rw [← hq]
    clear hq
    have HV : Hid (r = q) := Lib.hid (by rw [hr.out, HF.out]; exact HQ.out.symm)
    go_wp2_with fail
    go_ret
    exact ⟨by rw [HV.out]; rfl, ((HB.out.alloc (by have := HB.out.size; omega) _).alloc (by have := HB.out.size; simp; omega) _).drew⟩
  · have hE := insE_f (show ({ bareI f with d := f.d, a := f.a } : Ins) ≠ ⟨f.op, f.what, f.nar, f.d, f.a, f.b, f.n, f.size, f.to⟩ from hf)
    have HF : Hid ((insE { bareI f with d := f.d, a := f.a } f && [f.d, f.a].all regP) = false) := Lib.hid (by rw [insE_f hf]; rfl)
    clear hf
    simp only [bareI] at hE
    go_wp2_with fail
    go_ret
    exact ⟨by rw [hr.out, HF.out]; rfl, (HB.out.alloc (by have := HB.out.size; omega) _).drew⟩
set_option maxHeartbeats 4000000 in
theorem end_pl (f : Ins) (i n : Int) (r : Bool) (hr : Hid (r = (insE { bareI f with a := f.a } f && [f.a].all regP))) (w : World) : Calls Tryd.prog 38 #[plA f i n] w fun e w' => e = .returned (.bool r) ∧ Below w.heap.size w w' := by
  have hcon := fun W => bare_any f i n W
  simp only [plA, plV, insV, insA, bareI, List.cons_append, List.nil_append] at hcon
  unfold plA plV insV
  go_enter Tryd.func38, Tryd.ntmps38
  go_wp2_with fail
  refine (hcon _).mono ?_
  rintro _ w1 ⟨rfl, hb⟩
  obtain ⟨cc, hB⟩ := pl_keeps f i n w w1 hb
  have HB := Lib.hid hB
  simp only [plC] at cc
  have e0 := cc 0 _ rfl
  have e1 := cc 1 _ rfl
  have e2 := cc 2 _ rfl
  have e3 := cc 3 _ rfl
  have e4 := cc 4 _ rfl
  have e5 := cc 5 _ rfl
  have e6 := cc 6 _ rfl
  have e7 := cc 7 _ rfl
  have e8 := cc 8 _ rfl
  have e9 := cc 9 _ rfl
  have e10 := cc 10 _ rfl
  clear cc hb hB hcon
  by_cases hf : ({ bareI f with a := f.a } : Ins) = f
  · have hE := insE_t (show ({ bareI f with a := f.a } : Ins) = ⟨f.op, f.what, f.nar, f.d, f.a, f.b, f.n, f.size, f.to⟩ from hf)
    have HF : Hid ((insE { bareI f with a := f.a } f && [f.a].all regP) = ([f.a].all regP)) := Lib.hid (by rw [insE_t hf]; rfl)
    clear hf
    simp only [bareI] at hE
    go_wp2_with fail
    refine (regs_new [f.a] _ _ (by simp) (new2n _ _ _)).mono ?_
    rintro _ w2 ⟨rfl, rfl⟩
    obtain ⟨q, hq⟩ : ∃ q, q = [f.a].all regP := ⟨_, rfl⟩
    have HQ := Lib.hid hq
    rw [← hq]
    clear hq
    have HV : Hid (r = q) := Lib.hid (by rw [hr.out, HF.out]; exact HQ.out.symm)
    go_wp2_with fail
    go_ret
    exact ⟨by rw [HV.out]; rfl, ((HB.out.alloc (by have := HB.out.size; omega) _).alloc (by have := HB.out.size; simp; omega) _)⟩
  · have hE := insE_f (show ({ bareI f with a := f.a } : Ins) ≠ ⟨f.op, f.what, f.nar, f.d, f.a, f.b, f.n, f.size, f.to⟩ from hf)
    have HF : Hid ((insE { bareI f with a := f.a } f && [f.a].all regP) = false) := Lib.hid (by rw [insE_f hf]; rfl)
    clear hf
    simp only [bareI] at hE
    go_wp2_with fail
    go_ret
    exact ⟨by rw [hr.out, HF.out]; rfl, (HB.out.alloc (by have := HB.out.size; omega) _)⟩
end Go.Proofs.YtdhfdlelnkoomaaDoor
