/- IrTells: its walk: over this seat's program. -/
import Derived.Test.YtdhfdlelnkoomaaDoorTAwake
namespace Go.Proofs.YtdhfdlelnkoomaaDoor
open Go.RowKit
set_option linter.unusedVariables false
set_option maxRecDepth 100000
theorem inss_lent {w : World} {g : Nat} {xs : List Ins} (h : Bk w g 35 (flatV (xs ++ marksI 12))) (hn : xs.length ≤ 1000000) : Inss w (fun b => b < w.heap.size) (some ⟨g, 0, none⟩) (xs.length + 12) xs :=
  inss_bk (ext := flatV (marksI 12)) (by rw [← flatV_app]; exact h) (by omega) (by unfold maxLen; omega)
set_option maxHeartbeats 2000000 in
theorem IrTells_any (A : Option Addr) (c : Nat) (xs : List Ins) (w : World) (hI : Inss w (fun b => b < w.heap.size) A c xs) (hio : ∀ f ∈ xs, InsOk f) (ht : Tb w.heap.size w) :
    Calls Tryd.prog 3 #[.slice A xs.length c] w fun e w' => e = .returned (.bool true) ∧ Below w.heap.size w w' := by
  have hxl : xs.length ≤ 9223372036854775807 := by have h1 := hI.2.1; have h2 := hI.2.2.1; unfold maxLen at h2; omega
  have HI := Lib.hid hI
  have HIO := Lib.hid hio
  have HT := Lib.hid ht
  clear hI hio ht
  by_cases h1 : 17000 < xs.length
  · have d1 : decide ((17000 : Int) < (xs.length : Int)) = true := decide_eq_true (by omega)
    go_enter Tryd.func3, Tryd.ntmps3
    go_wp2_with fail
    refine (awake_any w HT.out).mono ?_
    rintro _ w1 ⟨rfl, hb⟩
    go_wp2_with fail
    go_ret
    exact ⟨rfl, hb⟩
  have d1 : decide ((17000 : Int) < (xs.length : Int)) = false := decide_eq_false (by omega)
  go_enter Tryd.func3, Tryd.ntmps3
  go_wp2_with fail
  refine (lentF_any A c xs w HI.out (by omega)).mono ?_
  rintro _ w1 ⟨rfl, hF1, hb1⟩
  have HI1 := Lib.hid (HI.out.below hb1)
  have HF1 := Lib.hid hF1
  have HT1 := Lib.hid (HT.out.keep hb1)
  have HB1 := Lib.hid hb1
  clear hF1 hb1
  go_wp2_with fail
  refine (right_any (some ⟨w.heap.size, 0, none⟩) (xs.length + 12) xs w1 (inss_lent HF1.out (by omega))).mono ?_
  rintro _ w2 ⟨rfl, hb2⟩
  have HI2 := Lib.hid (HI1.out.below hb2)
  have HF2 := Lib.hid (HF1.out.below hb2 HF1.out.lt)
  have HB2 := Lib.hid (HB1.out.trans (hb2.mono HB1.out.size))
  have HT2 := Lib.hid (HT.out.keep HB2.out)
  clear hb2
  go_wp2_with fail
  refine (rright_any A c xs w2 HI2.out).mono ?_
  rintro _ w3 ⟨rfl, hb3⟩
  have HI3 := Lib.hid (HI2.out.below hb3)
  have HF3 := Lib.hid (HF2.out.below hb3 HF2.out.lt)
  have HB3 := Lib.hid (HB2.out.trans (hb3.mono HB2.out.size))
  have HT3 := Lib.hid ((HT.out.keep HB3.out).mono HB3.out.size)
  clear hb3
  go_wp2_with fail
  refine (text_any (some ⟨w.heap.size, 0, none⟩) (xs.length + 12) xs w3 (inss_lent HF3.out (by omega)) HIO.out HT3.out).mono ?_
  rintro _ w4 ⟨rfl, hb4⟩
  have HI4 := Lib.hid (HI3.out.below hb4)
  have HF4 := Lib.hid (HF3.out.below hb4 HF3.out.lt)
  have HB4 := Lib.hid (HB3.out.trans (hb4.mono HB3.out.size))
  have HT4 := Lib.hid ((HT.out.keep HB4.out).mono HB4.out.size)
  clear hb4
  go_wp2_with fail
  refine (rtext_any A c xs w4 HI4.out HIO.out HT4.out).mono ?_
  rintro _ w5 ⟨rfl, hb5⟩
  have HI5 := Lib.hid (HI4.out.below hb5)
  have HF5 := Lib.hid (HF4.out.below hb5 HF4.out.lt)
  have HB5 := Lib.hid (HB4.out.trans (hb5.mono HB4.out.size))
  clear hb5
  go_wp2_with fail
  refine (keptF_true w.heap.size A c xs w5 HF5.out HI5.out (by omega)).mono ?_
  rintro _ w6 ⟨rfl, hb6⟩
  have HB6 := Lib.hid (HB5.out.trans (hb6.mono HB5.out.size))
  have HT6 := Lib.hid ((HT.out.keep HB6.out).mono HB6.out.size)
  clear hb6
  go_wp2_with fail
  refine (awake_any w6 HT6.out).mono ?_
  rintro _ w7 ⟨rfl, hb7⟩
  have HB7 := Lib.hid (HB6.out.trans (hb7.mono HB6.out.size))
  clear hb7
  go_wp2_with fail
  go_ret
  exact ⟨rfl, HB7.out⟩
end Go.Proofs.YtdhfdlelnkoomaaDoor
