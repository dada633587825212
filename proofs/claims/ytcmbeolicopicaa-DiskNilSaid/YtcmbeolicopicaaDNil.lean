/- disk: DiskNil, the walk. -/
import Derived.Test.YtcmbeolicopicaaDAwk
namespace Go.Proofs.Ytcmbeolicopicaa
open Go.RowKit Go.Maps Go.ChangeMaps
set_option linter.unusedVariables false
set_option linter.unusedSectionVars false
set_option linter.unusedSimpArgs false
set_option maxRecDepth 100000

def nSa : Nm := [97]
set_option maxHeartbeats 4000000 in
theorem DiskNil_any (s : Nm) (m : Int) (w : World) : Calls Try.prog 4 #[nmV s, .int .i64 m] w fun e w' => e = .returned (.bool true) ∧ Below w.heap.size w w' := by
  have hb0 : Below w.heap.size w ((w.alloc (.cells #[.map none, .int .i64 0] 49)).alloc (.cells #[.pointer none, .pointer (some ⟨w.heap.size, 0, none⟩)] 24)) := ((Below.refl _ _).alloc (Nat.le_refl _) _).alloc (by simp) _
  have hd : Bk ((w.alloc (.cells #[.map none, .int .i64 0] 49)).alloc (.cells #[.pointer none, .pointer (some ⟨w.heap.size, 0, none⟩)] 24)) w.heap.size 49 [.map none, .int .i64 0] := (heap_alloc_old _ _ (by simp)).trans (heap_alloc_new w _)
  have hl : Bk ((w.alloc (.cells #[.map none, .int .i64 0] 49)).alloc (.cells #[.pointer none, .pointer (some ⟨w.heap.size, 0, none⟩)] 24)) (w.heap.size + 1) 24 [.pointer none, .pointer (some ⟨w.heap.size, 0, none⟩)] := by
    have := Bk.new (w.alloc (.cells #[.map none, .int .i64 0] 49)) 24 [.pointer none, .pointer (some ⟨w.heap.size, 0, none⟩)]
    rwa [World.size_alloc] at this
  unfold nmV
  go_enter Try.func4, Try.ntmps4
  go_wp2_with fail
  generalize ((w.alloc (.cells #[.map none, .int .i64 0] 49)).alloc (.cells #[.pointer none, .pointer (some ⟨w.heap.size, 0, none⟩)] 24)) = W at *
  have HD := Lib.hid hd
  have HL := Lib.hid hl
  have HB := Lib.hid hb0
  clear hd hl hb0
  go_loopw [6] (fun i wr => ∃ j : Nat, j ≤ 2 ∧ i = .int .i64 j ∧ Below W.heap.size W wr) (fun i _ => 2 - (intOf i).toNat)
  case atStart => exact ⟨0, by omega, rfl, Below.refl _ _⟩
  case round =>
    obtain ⟨j, hj, rfl, hr⟩ := hrel
    have r2 := HL.out.below hr HL.out.lt
    have r1 := HD.out.below hr HD.out.lt
    by_cases hlt : j < 2
    · obtain ⟨v, hp, hu⟩ : ∃ v, wr.cell? ⟨w.heap.size + 1, j, none⟩ = some v ∧ ND v wr := by
        have hc := r2.cell j
        rcases (show j = 0 ∨ j = 1 by omega) with rfl | rfl
        · exact ⟨_, hc, .inl rfl⟩
        · exact ⟨_, hc, .inr ⟨_, rfl, r1⟩⟩
      have HU := Lib.hid hu
      clear hu r2 r1
      go_wp2_with fail
      refine (read_not HU.out s).mono ?_
      rintro _ w2 ⟨rfl, d2⟩
      have U2 := Lib.hid (HU.out.below d2)
      replace d2 := hr.trans (d2.mono hr.size)
      go_wp2_with fail
      refine (append_not U2.out s (.slice none 0 0)).mono ?_
      rintro _ w3 ⟨rfl, d3⟩
      have U3 := Lib.hid (U2.out.below d3)
      replace d3 := d2.trans (d3.mono d2.size)
      go_wp2_with fail
      refine (sync_not U3.out s).mono ?_
      rintro _ w4 ⟨rfl, d4⟩
      have U4 := Lib.hid (U3.out.below d4)
      replace d4 := d3.trans (d4.mono d3.size)
      go_wp2_with fail
      refine (cut_not U4.out s m).mono ?_
      rintro _ w5 ⟨rfl, d5⟩
      have U5 := Lib.hid (U4.out.below d5)
      replace d5 := d4.trans (d5.mono d4.size)
      go_wp2_with fail
      refine (rename_not U5.out s nSa).mono ?_
      rintro _ w6 ⟨rfl, d6⟩
      have U6 := Lib.hid (U5.out.below d6)
      replace d6 := d5.trans (d6.mono d5.size)
      go_wp2_with fail
      refine (remove_not U6.out s).mono ?_
      rintro _ w7 ⟨rfl, d7⟩
      have U7 := Lib.hid (U6.out.below d7)
      replace d7 := d6.trans (d7.mono d6.size)
      go_wp2_with fail
      refine (crash_not U7.out m).mono ?_
      rintro _ w8 ⟨rfl, d8⟩
      have U8 := Lib.hid (U7.out.below d8)
      replace d8 := d7.trans (d8.mono d7.size)
      go_wp2_with fail
      refine (list_not U8.out).mono ?_
      rintro _ w9 ⟨rfl, d9⟩
      have U9 := Lib.hid (U8.out.below d9)
      replace d9 := d8.trans (d9.mono d8.size)
      go_wp2_with fail
      refine (used_not U9.out).mono ?_
      rintro _ w10 ⟨rfl, d10⟩
      have U10 := Lib.hid (U9.out.below d10)
      replace d10 := d9.trans (d10.mono d9.size)
      go_wp2_with fail
      refine (copy_not U10.out).mono ?_
      rintro _ w11 ⟨rfl, d11⟩
      have U11 := Lib.hid (U10.out.below d11)
      replace d11 := d10.trans (d11.mono d10.size)
      go_wp2_with fail
      go_roundw
      case rel => exact ⟨j + 1, by omega, by go_num, d11⟩
      case measure => simp [intOf]; omega
    · go_wp2_with fail
      refine (awake_any _).mono ?_
      rintro _ w3 ⟨rfl, d3⟩
      go_wp2_with fail
      go_ret
      exact ⟨rfl, HB.out.trans ((hr.trans (d3.mono hr.size)).mono HB.out.size)⟩
end Go.Proofs.Ytcmbeolicopicaa

