/- The kinds that reckon: over this seat's program. -/
import Derived.Test.YtdhfdlelnkoomaaDoorRPl4
import Derived.BigRegion
namespace Go.Proofs.YtdhfdlelnkoomaaDoor
open Go.RowKit
set_option linter.unusedVariables false
set_option maxRecDepth 100000
attribute [local go_sem high] eql_ins
set_option maxHeartbeats 4000000 in
theorem alu_pl (f : Ins) (i n : Int) (r : Bool) (hr : Hid (r = (insE { bareI f with what := f.what, nar := f.nar, d := f.d, a := f.a, b := f.b } f && (decide (1 ≤ f.what ∧ f.what ≤ 13) && ([f.d, f.a, f.b].all regP && (f.what != 13 || f.b == 0)))))) (w : World) : Calls Tryd.prog 33 #[plA f i n] w fun e w' => e = .returned (.bool r) ∧ Below w.heap.size w w' := by
  have hcon := fun W => bare_any f i n W
  simp only [plA, plV, insV, insA, bareI, List.cons_append, List.nil_append] at hcon
  unfold plA plV insV
  go_enter Tryd.func33, Tryd.ntmps33
  go_wp2_with fail
  refine (hcon _).mono ?_
  rintro _ w1 ⟨rfl, hb⟩
  obtain ⟨cc, hB⟩ := pl_keeps2 f i n w w1 hb
  have HB := Lib.hid hB
  simp only [plC] at cc
  have e0 := cc 0 _ rfl
  have e1 := cc 1 _ rfl
  have e2 := cc 2 _ rfl
  have e3 := cc 3 _ rfl
  have e4 := cc 4 _ rfl
  have e5 := cc 5 _ rfl
  have e6 := cc 6 _ rfl
  have e7 := cc 7 _ rfl
  have e8 := cc 8 _ rfl
  have e9 := cc 9 _ rfl
  have e10 := cc 10 _ rfl
  have z0 : w.heap.size < w1.heap.size := pl_lt f i n w w1 hb
  have z1 : w.heap.size < w1.heap.size + 1 := Nat.lt_succ_of_lt z0
  clear cc hb hB hcon
  go_wp2_with fail
  go_region
  by_cases hf : ({ bareI f with what := f.what, nar := f.nar, d := f.d, a := f.a, b := f.b } : Ins) = f
  · have hE := insE_t (show ({ bareI f with what := f.what, nar := f.nar, d := f.d, a := f.a, b := f.b } : Ins) = ⟨f.op, f.what, f.nar, f.d, f.a, f.b, f.n, f.size, f.to⟩ from hf)
    have HF : Hid ((insE { bareI f with what := f.what, nar := f.nar, d := f.d, a := f.a, b := f.b } f && (decide (1 ≤ f.what ∧ f.what ≤ 13) && ([f.d, f.a, f.b].all regP && (f.what != 13 || f.b == 0)))) = ((decide (1 ≤ f.what ∧ f.what ≤ 13) && ([f.d, f.a, f.b].all regP && (f.what != 13 || f.b == 0))))) := Lib.hid (by rw [insE_t hf]; rfl)
    clear hf
    simp only [bareI] at hE
    by_cases hlo : 1 ≤ f.what
    · have dlo : decide (1 ≤ f.what) = true := decide_eq_true hlo
      by_cases hhi : f.what ≤ 13
      · have dhi : decide (f.what ≤ 13) = true := decide_eq_true hhi
        go_wp2_with fail
        refine (regs_new [f.d, f.a, f.b] _ _ (by simp) (new2 _ _ _)).mono ?_
        rintro _ w2 ⟨rfl, rfl⟩
        obtain ⟨q, hq⟩ : ∃ q, q = [f.d, f.a, f.b].all regP := ⟨_, rfl⟩
        have HQ := Lib.hid hq
        rw [← hq]
        clear hq
        cases q
        · have HV : Hid (r = false) := Lib.hid (by rw [hr.out, HF.out]; rw [decide_eq_true ⟨hlo, hhi⟩, ← HQ.out]; rfl)
          go_wp2_with fail
          go_ret
          exact ⟨by rw [HV.out]; rfl, ((HB.out.alloc (by have := HB.out.size; omega) _).alloc (by have := HB.out.size; simp; omega) _).drew⟩
        · by_cases hw : f.what = 13
          · have dw : (f.what != 13) = false := by rw [hw]; rfl
            by_cases hb0 : f.b = 0
            · have db : (f.b == 0) = true := by rw [hb0]; rfl
              have HV : Hid (r = true) := Lib.hid (by rw [hr.out, HF.out]; rw [decide_eq_true ⟨hlo, hhi⟩, ← HQ.out]; simp [hb0])
              have hw' := Lib.hid hw
              have hb' := Lib.hid hb0
              clear hw hb0
              go_wp2_with fail
              go_ret
              exact ⟨by rw [HV.out]; rfl, ((HB.out.alloc (by have := HB.out.size; omega) _).alloc (by have := HB.out.size; simp; omega) _).drew⟩
            · have db : (f.b == 0) = false := by simpa using hb0
              have HV : Hid (r = false) := Lib.hid (by rw [hr.out, HF.out]; rw [decide_eq_true ⟨hlo, hhi⟩, ← HQ.out, hw]; simp [hb0])
              have hw' := Lib.hid hw
              clear hw
              go_wp2_with fail
              go_ret
              exact ⟨by rw [HV.out]; rfl, ((HB.out.alloc (by have := HB.out.size; omega) _).alloc (by have := HB.out.size; simp; omega) _).drew⟩
          · have dw : (f.what != 13) = true := by simpa using hw
            have HV : Hid (r = true) := Lib.hid (by rw [hr.out, HF.out]; rw [decide_eq_true ⟨hlo, hhi⟩, ← HQ.out]; simp [hw])
            go_wp2_with fail
            go_ret
            exact ⟨by rw [HV.out]; rfl, ((HB.out.alloc (by have := HB.out.size; omega) _).alloc (by have := HB.out.size; simp; omega) _).drew⟩
      · have dhi : decide (f.what ≤ 13) = false := decide_eq_false hhi
        have HV : Hid (r = false) := Lib.hid (by rw [hr.out, HF.out]; rw [decide_eq_false (fun h => hhi h.2)]; rfl)
        go_wp2_with fail
        go_ret
        exact ⟨by rw [HV.out]; rfl, (HB.out.alloc (by have := HB.out.size; omega) _).drew⟩
    · have dlo : decide (1 ≤ f.what) = false := decide_eq_false hlo
      have HV : Hid (r = false) := Lib.hid (by rw [hr.out, HF.out]; rw [decide_eq_false (fun h => hlo h.1)]; rfl)
      go_wp2_with fail
      go_ret
      exact ⟨by rw [HV.out]; rfl, (HB.out.alloc (by have := HB.out.size; omega) _).drew⟩
  · have hE := insE_f (show ({ bareI f with what := f.what, nar := f.nar, d := f.d, a := f.a, b := f.b } : Ins) ≠ ⟨f.op, f.what, f.nar, f.d, f.a, f.b, f.n, f.size, f.to⟩ from hf)
    have HF : Hid ((insE { bareI f with what := f.what, nar := f.nar, d := f.d, a := f.a, b := f.b } f && (decide (1 ≤ f.what ∧ f.what ≤ 13) && ([f.d, f.a, f.b].all regP && (f.what != 13 || f.b == 0)))) = false) := Lib.hid (by rw [insE_f hf]; rfl)
    clear hf
    simp only [bareI] at hE
    go_wp2_with fail
    go_ret
    exact ⟨by rw [hr.out, HF.out]; rfl, (HB.out.alloc (by have := HB.out.size; omega) _).drew⟩
end Go.Proofs.YtdhfdlelnkoomaaDoor
