/- ir.Text: over this seat's program. -/
import Derived.Test.YtdhfdlelnkoomaaDoorTText
namespace Go.Proofs.YtdhfdlelnkoomaaDoor
open Go.RowKit
set_option linter.unusedVariables false
set_option maxRecDepth 100000

set_option maxHeartbeats 2000000 in
theorem text_any (A : Option Addr) (c : Nat) (xs : List Ins) (w : World) (hI : Inss w (fun b => b < w.heap.size) A c xs) (hok : ∀ f ∈ xs, InsOk f) (ht : Tb w.heap.size w) :
    Calls Tryd.prog 10 #[.slice A xs.length c] w fun e w' => e = .returned (.string ⟨(textP xs).toArray⟩) ∧ Below w.heap.size w w' := by
  have HR := right_any A c xs w hI
  have hcap : xs.length ≤ 9223372036854775807 := by have := hI.2.1; have := hI.2.2.1; unfold maxLen at this; omega
  have HI := Lib.hid hI
  have HT := Lib.hid ht
  have HOK := Lib.hid hok
  clear hI ht hok
  by_cases hr : rightP xs = true
  · have HRR := Lib.hid hr
    have HP := Lib.hid (show textP xs = textUp xs xs.length by rw [textP, if_pos hr])
    rw [hr] at HR
    have HR' := Lib.hid HR
    clear HR hr
    go_enter Tryd.func10, Tryd.ntmps10
    go_wp2_with fail
    refine HR'.out.mono ?_
    rintro _ w1 ⟨rfl, hb1⟩
    have HB1 := Lib.hid hb1
    clear hb1 HR'
    have HT1 := Lib.hid (HT.out.keep HB1.out)
    have HBd : Hid (Bd 54 w.heap.size w1.heap.size (textUp xs 0) (w1.alloc (.cells #[.pointer none, .slice none 0 0] 54))) := Lib.hid (.inl ⟨HB1.out.size, .slice none 0 0, heap_alloc_new w1 _, ⟨rfl, .inl ⟨rfl, rfl⟩⟩, by simp [Value.ownBlock]⟩)
    have HBW : Hid (Below w.heap.size w (w1.alloc (.cells #[.pointer none, .slice none 0 0] 54))) := Lib.hid (HB1.out.alloc HB1.out.size _)
    go_wp2_with fail
    go_loopw [13] (fun i wr => ∃ k : Nat, k ≤ xs.length ∧ i = .int .i64 k ∧ Hid (Bd 54 w.heap.size w1.heap.size (textUp xs k) wr) ∧ Hid (Below w.heap.size w wr)) (fun i _ => xs.length - (intOf i).toNat)
    case atStart => exact ⟨0, Nat.zero_le _, rfl, HBd, HBW⟩
    case round =>
      obtain ⟨k, hk, rfl, hd, hb⟩ := hrel
      by_cases hlt : k < xs.length
      · have d1 : decide ((k : Int) < (xs.length : Int)) = true := decide_eq_true (by omega)
        obtain ⟨a, f, e', ha, hf, hc⟩ := HI.out.at_ hlt
        subst e'
        have hcw : ∀ j, j < 9 → wr.cell? ((a.add (k * 9)).add j) = (insV f)[j]? := fun j hj => (hb.out.cell (p := (a.add (k * 9)).add j) (by rw [add_blk, add_blk]; exact ha)).trans (hc j hj)
        obtain ⟨e0, e1, e2, e3, e4, e5, e6, e7, e8⟩ := flat9 hcw
        clear hc hcw
        have HBw := Lib.hid hb.out.size
        have hzr : (a.add (k * 9)).block < wr.heap.size := by rw [add_blk]; have := HBw.out; omega
        have hkl := Lib.hid (show k ≤ 17000 by have := (right_len HRR.out).2; omega)
        have HLN := Lib.hid (textUp_len HRR.out HOK.out k hk)
        have HTL := Lib.hid (textUp_succ xs k)
        have HFX := Lib.hid (show xs.getD k default = f by rw [List.getD_eq_getElem?_getD, hf.out]; rfl)
        rw [HFX.out] at HTL
        obtain ⟨op, d, aa, b, u, sz, t, HLI⟩ : ∃ op d a b u sz t, Hid (LnI f op d a b u sz t) := by
          obtain ⟨op, d, a, b, u, sz, t, h⟩ := right_ln HRR.out HOK.out hf.out
          exact ⟨op, d, a, b, u, sz, t, Lib.hid h⟩
        obtain ⟨wb, eb, HK⟩ := Kq.box f (HT.out.keep hb.out) hd.out
        simp only [insV] at eb
        clear HFX
        go_wp2_with fail
        clear eb
        refine (itoaN_any k hkl.out _ HK.out.tb).mono ?_
        rintro _ w2 ⟨rfl, hb2⟩
        have HK2 := Lib.hid (HK.out.step hb2)
        clear hb2
        go_wp2_with fail
        refine (put_any w.heap.size w1.heap.size w2.heap.size (textUp xs k) [Lib.itoa (k : Int), [58, 32]] _ (HK2.out.alloc _).bd (HK2.out.texts [Lib.itoa (k : Int), [58, 32]]).1 (HK2.out.texts []).2 (by have := HLN.out; have := itoa_l k hkl.out; have := hkl.out; simp; omega) (HK2.out.alloc _).hB (by simp)).mono ?_
        rintro _ w3 ⟨rfl, hw3⟩
        have HK3 := Lib.hid ((HK2.out.alloc _).write hw3)
        obtain ⟨e0, e1, e2, e3, e4, e5, e6, e7, e8⟩ := HK3.out.cs
        clear hw3
        go_wp2_with fail
        refine (line_any HLI.out w.heap.size w1.heap.size _ _ HK3.out.tb HK3.out.bd (by have := HLN.out; have := itoa_l k hkl.out; have := hkl.out; simp; omega)).mono ?_
        rintro _ w4 ⟨rfl, hw4⟩
        have HK4 := Lib.hid (HK3.out.write hw4)
        clear hw4 e0 e1 e2 e3 e4 e5 e6 e7 e8
        go_wp2_with fail
        refine (put_any w.heap.size w1.heap.size w4.heap.size _ [[10]] _ (HK4.out.alloc _).bd (HK4.out.texts [[10]]).1 (HK4.out.texts []).2 (by have := HLN.out; have := itoa_l k hkl.out; have := hkl.out; have := insT_len HLI.out; simp; omega) (HK4.out.alloc _).hB (by simp)).mono ?_
        rintro _ w5 ⟨rfl, hw5⟩
        have HK5 := Lib.hid ((HK4.out.alloc _).write hw5)
        clear hw5
        go_wp2_with fail
        go_roundw
        case rel => exact ⟨k + 1, by omega, by go_num, Lib.hid (by have h := HK5.out.bd; rw [HTL.out]; simpa using h), Lib.hid (hb.out.trans HK5.out.below)⟩
        case measure => simp [intOf]; omega
      · have d1 : decide ((k : Int) < (xs.length : Int)) = false := decide_eq_false (by omega)
        obtain rfl : k = xs.length := by omega
        have HNE : Hid (textUp xs xs.length ≠ []) := Lib.hid (by
          have h1 := (right_len HRR.out).1
          obtain ⟨m, hm⟩ : ∃ m, xs.length = m + 1 := ⟨xs.length - 1, by omega⟩
          rw [hm, textUp_succ]; simp)
        go_wp2_with fail
        refine (string_any wTy w.heap.size w1.heap.size _ _ hd.out HNE.out).mono ?_
        rintro _ w2 ⟨rfl, hb2⟩
        go_wp2_with fail
        go_ret
        exact ⟨by rw [HP.out]; rfl, hb.out.trans hb2⟩
  · have hr' : rightP xs = false := by simpa using hr
    have HP := Lib.hid (show textP xs = [] by rw [textP, if_neg hr])
    rw [hr'] at HR
    have HR' := Lib.hid HR
    clear HR hr hr'
    go_enter Tryd.func10, Tryd.ntmps10
    go_wp2_with fail
    refine HR'.out.mono ?_
    rintro _ w1 ⟨rfl, hb1⟩
    go_wp2_with fail
    go_ret
    exact ⟨by rw [HP.out]; rfl, hb1⟩
end Go.Proofs.YtdhfdlelnkoomaaDoor
