/- IrNumbers' code of each kind. -/
import Derived.Test.YtdhfdlelnkoomaaDoorTTells
namespace Go.Proofs.YtdhfdlelnkoomaaDoor
open Go.RowKit
set_option linter.unusedVariables false
set_option maxRecDepth 100000

def aluI (k : Nat) : Ins := ⟨3, (k : Int) + 1, ((k : Int) + 1) % 2 == 0, (k : Int) + 1 + 1, 1, ((k : Int) + 1) % 13, 0, 0, 0⟩
def askI (k : Nat) : Ins := ⟨8, (k : Int) + 17, ((k : Int) + 17) % 2 == 0, 0, 1, 15, 0, 0, 30⟩
def head6 : List Ins := [⟨1, 0, false, 15, 0, 0, 18446744073709551615, 0, 0⟩, ⟨2, 0, false, 1, 2, 0, 0, 0, 0⟩, ⟨4, 0, false, 3, 4, 0, 5, 8, 0⟩, ⟨5, 0, false, 3, 4, 0, 18446744073709551608, 1, 0⟩, ⟨6, 0, false, 0, 10, 4, 9, 2, 0⟩, ⟨7, 0, false, 0, 0, 0, 0, 0, 9⟩]
def alus (k : Nat) : List Ins := (List.range k).map aluI
def asks (k : Nat) : List Ins := (List.range k).map askI
theorem alus_succ (k : Nat) : alus (k + 1) = alus k ++ [aluI k] := by simp [alus, List.range_succ]
theorem asks_succ (k : Nat) : asks (k + 1) = asks k ++ [askI k] := by simp [asks, List.range_succ]
def fullL : List Ins := ((head6 ++ alus 13) ++ asks 11) ++ [endI 15]
theorem own_alloc' {w w' : World} {base e size n : Nat} {v : Value} {xs : List Value} (h : w.ownsRow base e size v n xs) (hb : Below w.heap.size w w') : w'.ownsRow base e size v n xs :=
  own_keep h hb
set_option maxHeartbeats 4000000 in
theorem full_any (w : World) : Calls Tryd.prog 13 #[] w fun e w' => ∃ v, e = .returned v ∧ w'.ownsRow w.heap.size 35 9 v 31 (flatV fullL) ∧ Below w.heap.size w w' := by
  obtain ⟨i0, hi, hz0, hz1, hz2⟩ := info_parts flat_info
  have hi := Lib.hid hi
  have hz0 := Lib.hid hz0
  have hz1 := Lib.hid hz1
  have hz2 := Lib.hid hz2
  go_enter Tryd.func13, Tryd.ntmps13
  go_wp2_with fail
  have hown0 : (w.alloc (.cells (flatV head6).toArray 35)).ownsRow w.heap.size 35 9 (.slice (some ⟨w.heap.size, 0, none⟩) 6 6) 6 (flatV head6) := by
    have := World.ownsRow_lit (base := w.heap.size) (e := 35) (size := 9) w (flatV head6).toArray 6 (Nat.le_refl _) (by decide) (by simp [flatV_len, head6])
    simpa using this
  have HO := Lib.hid hown0
  have HB : Hid (Below w.heap.size w (w.alloc (.cells (flatV head6).toArray 35))) := Lib.hid ((Below.refl _ _).alloc (Nat.le_refl _) _)
  clear hown0
  go_loopw [1, 2] (fun v' i wr => ∃ (v : Value) (k : Nat), v = v' ∧ k ≤ 13 ∧ i = .int .u8 ((k : Int) + 1) ∧ Hid (wr.ownsRow w.heap.size 35 9 v (6 + k) (flatV (head6 ++ alus k))) ∧ Hid (Below w.heap.size w wr)) (fun _ i _ => 14 - (intOf i).toNat)
  case atStart => exact ⟨_, 0, rfl, Nat.zero_le _, rfl, HO, HB⟩
  case round =>
    obtain ⟨v, k, rfl, hk, rfl, hO, hB⟩ := hrel
    by_cases hlt : k < 13
    · have d1 : decide ((k : Int) + 1 ≤ 13) = true := decide_eq_true (by omega)
      have i1 : (0 : Int) ≤ (k : Int) + 1 := by omega
      have hwr : IntKind.u8.wrap ((k : Int) + 1 + 1) = (k : Int) + 1 + 1 := by rw [IntKind.wrap_u8]; omega
      have hOA : Hid (∀ o, (wr.alloc o).ownsRow w.heap.size 35 9 v (6 + k) (flatV (head6 ++ alus k))) := Lib.hid fun o => hO.out.alloc o
      go_wp2_with (at_builtin; refine wpList_append_own _ rfl (.tmp 15) (.tmp 27) 22 rfl w.heap.size 35 i0 _ 9 56 Tryd.underlying22 hi.out hz0.out hz1.out hz2.out rfl (by decide) v (6 + k) (flatV (head6 ++ alus k)) rfl (hOA.out _) ⟨wr.heap.size, 0, none⟩ 1 1 (insV (aluI k)) rfl rfl (news_new wr (insV (aluI k)) 35) (insV_one _) (by unfold maxLen; omega) (by omega) (by have := hB.out.size; simp; omega) ?_)
      intro v' w1 hown' hgrow _
      have hb1 := (hB.out.alloc (hB.out.size) _).grown hgrow (by have := hB.out.size; simp; omega) (fun g hg => (hO.out.lt g hg).1)
      have HO1 : Hid (w1.ownsRow w.heap.size 35 9 v' (6 + k + 1) (flatV (head6 ++ alus (k + 1)))) := Lib.hid (by rw [alus_succ, ← List.append_assoc, flatV_app, flatV_single]; exact hown')
      have HB1 := Lib.hid hb1
      clear hown' hgrow hb1 hOA
      go_wp2_with fail
      go_roundw
      case rel => exact ⟨_, k + 1, rfl, by omega, by go_num, HO1, HB1⟩
      case measure => simp [intOf]; omega
    · have hk13 : k = 13 := by omega
      have d1 : decide ((k : Int) + 1 ≤ 13) = false := decide_eq_false (by omega)
      have HO : Hid (wr.ownsRow w.heap.size 35 9 v 19 (flatV (head6 ++ alus 13))) := Lib.hid (by have h := hO.out; rw [hk13] at h; exact h)
      have HB := Lib.hid hB.out
      clear hO hB hlt hk hk13
      obtain ⟨wo, ho⟩ : ∃ wo : World, wo = wr := ⟨_, rfl⟩
      subst ho
      go_wp2_with fail
      go_loopw [1, 3] (fun v' i wr => ∃ (v : Value) (k : Nat), v = v' ∧ k ≤ 11 ∧ i = .int .u8 ((k : Int) + 17) ∧ Hid (wr.ownsRow w.heap.size 35 9 v (19 + k) (flatV ((head6 ++ alus 13) ++ asks k))) ∧ Hid (Below w.heap.size w wr)) (fun _ i _ => 29 - (intOf i).toNat)
      case atStart => exact ⟨_, 0, rfl, Nat.zero_le _, rfl, HO, HB⟩
      case round =>
        clear HO HB
        obtain ⟨v, k, rfl, hk, rfl, hO, hB⟩ := hrel
        by_cases hlt : k < 11
        · have d1 : decide ((k : Int) + 17 ≤ 27) = true := decide_eq_true (by omega)
          have i1 : (0 : Int) ≤ (k : Int) + 17 := by omega
          have hwr : IntKind.u8.wrap ((k : Int) + 17 + 1) = (k : Int) + 17 + 1 := by rw [IntKind.wrap_u8]; omega
          have hOA : Hid (∀ o, (wr.alloc o).ownsRow w.heap.size 35 9 v (19 + k) (flatV ((head6 ++ alus 13) ++ asks k))) := Lib.hid fun o => hO.out.alloc o
          go_wp2_with (at_builtin; refine wpList_append_own _ rfl (.tmp 33) (.tmp 39) 22 rfl w.heap.size 35 i0 _ 9 56 Tryd.underlying22 hi.out hz0.out hz1.out hz2.out rfl (by decide) v (19 + k) (flatV ((head6 ++ alus 13) ++ asks k)) rfl (hOA.out _) ⟨wr.heap.size, 0, none⟩ 1 1 (insV (askI k)) rfl rfl (news_new wr (insV (askI k)) 35) (insV_one _) (by unfold maxLen; omega) (by omega) (by have := hB.out.size; simp; omega) ?_)
          intro v' w1 hown' hgrow _
          have hb1 := (hB.out.alloc (hB.out.size) _).grown hgrow (by have := hB.out.size; simp; omega) (fun g hg => (hO.out.lt g hg).1)
          have HO1 : Hid (w1.ownsRow w.heap.size 35 9 v' (19 + k + 1) (flatV ((head6 ++ alus 13) ++ asks (k + 1)))) := Lib.hid (by rw [asks_succ, ← List.append_assoc, flatV_app, flatV_single]; exact hown')
          have HB1 := Lib.hid hb1
          clear hown' hgrow hb1 hOA
          go_wp2_with fail
          go_roundw
          case rel => exact ⟨_, k + 1, rfl, by omega, by go_num, HO1, HB1⟩
          case measure => simp [intOf]; omega
        · have hk11 : k = 11 := by omega
          have d1 : decide ((k : Int) + 17 ≤ 27) = false := decide_eq_false (by omega)
          have HO : Hid (wr.ownsRow w.heap.size 35 9 v 30 (flatV ((head6 ++ alus 13) ++ asks 11))) := Lib.hid (by have h := hO.out; rw [hk11] at h; exact h)
          have he := fun a W => end_any a W
          simp only [insA, insV, endI] at he
          have HE := Lib.hid he
          clear hO hlt hk hk11 he
          go_wp2_with fail
          refine (HE.out 15 _).mono ?_
          rintro _ w2 ⟨rfl, hb2⟩
          have hOA : Hid (∀ o, (w2.alloc o).ownsRow w.heap.size 35 9 v 30 (flatV ((head6 ++ alus 13) ++ asks 11))) := Lib.hid fun o => (own_keep HO.out hb2).alloc o
          have hB2 := Lib.hid (hB.out.trans (hb2.mono hB.out.size))
          have hl2 := Lib.hid (fun g hg => (HO.out.lt g hg))
          clear hb2
          go_wp2_with (at_builtin; refine wpList_append_own _ rfl (.tmp 41) (.tmp 43) 22 rfl w.heap.size 35 i0 _ 9 56 Tryd.underlying22 hi.out hz0.out hz1.out hz2.out rfl (by decide) v 30 (flatV ((head6 ++ alus 13) ++ asks 11)) rfl (hOA.out _) ⟨w2.heap.size, 0, none⟩ 1 1 (insV (endI 15)) rfl rfl (news_new w2 (insV (endI 15)) 35) (insV_one _) (by unfold maxLen; omega) (by omega) (by have := hB2.out.size; simp; omega) ?_)
          intro v' w3 hown' hgrow _
          have hb3 := (hB2.out.alloc (hB2.out.size) (.cells (insV (endI 15)).toArray 35)).grown hgrow (by have := hB2.out.size; simp; omega) (fun g hg => (hl2.out g hg).1)
          have HO3 : Hid (w3.ownsRow w.heap.size 35 9 v' 31 (flatV fullL)) := Lib.hid (by rw [fullL, flatV_app _ [endI 15], flatV_single]; exact hown')
          have HB3 := Lib.hid hb3
          clear hown' hgrow hb3 hOA
          go_wp2_with fail
          go_ret
          exact ⟨v', rfl, HO3.out, HB3.out⟩
end Go.Proofs.YtdhfdlelnkoomaaDoor
