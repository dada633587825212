/- raft, the walk: Letter, a letter for this peer. -/
import Derived.Test.YthfofnfkopnbhaaW20
namespace Go.Proofs.Ythfofnfkopnbhaa
open Go.RowKit Go.Maps Go.ChangeMaps
set_option linter.unusedVariables false
set_option linter.unusedSimpArgs false
set_option linter.unusedSectionVars false
set_option maxRecDepth 100000

section
variable {w w' : World} {P : Nat} {n id : Int} {m : Pm} {R : Nat → Prop} {c c' : Cs En}
set_option maxHeartbeats 8000000 in
theorem letter1_yes {lb pb : Nat} (l : Lt En) (ver : Int) (A : Option Addr) (d : Nat) (K : Nat → Prop) (hbr : RightOk l ver) (hme : ForMe n id l) (h : PeA w P n id m R c) (hk : Ok n id c) (ho : c.out.length ≤ 10000)
    (hlb : Bk w lb 40 (ltV l ver A d)) (hpb : Bk w pb 46 [.pointer (some ⟨P, 0, none⟩)]) (n1 : ¬ m.Own P lb) (n2 : ¬ m.Own P pb) (he : Ents w K A d l.ents) (hKo : ∀ b, K b → b < w.heap.size ∧ ¬ m.Own P b)
    (hlen : l.ents.length ≤ 9000000000) (hd : ∀ e ∈ l.ents, e.data.length ≤ 100000000) (hmat : c.p.role = 3 → 0 ≤ c.p.mat l.src) :
    Calls Try.prog 35 #[.pointer (some ⟨lb, 0, none⟩), .pointer (some ⟨pb, 0, none⟩)] w fun e w' => e = .returned (.tuple #[]) ∧ Went P n id m R (letterP En.term noopE n id true l c) w w' := by
  have HBR := Lib.hid hbr
  have HH := Lib.hid h
  have HK := Lib.hid hk
  have HL := Lib.hid hlb
  have HPB := Lib.hid hpb
  have HENT := Lib.hid he
  have HE : Hid (∀ w2, Below w.heap.size w w2 → Went P n id m R c w w2) := Lib.hid fun w2 hb => Went.pre h hb (Went.refl (h.below hb))
  obtain ⟨l0, l1, l2, l3, l4, l5, l6, l7, l8, l9⟩ := cells10 hlb
  have hpc : w.cell? ⟨pb, 0, none⟩ = some (.pointer (some ⟨P, 0, none⟩)) := hpb.cell 0
  have hdo := does_any l.kind w
  clear hbr h hk hlb hpb he
  go_enter Try.func35, Try.ntmps35
  go_wp2_with fail
  refine hdo.mono ?_
  rintro _ w1 ⟨rfl, hb1⟩
  have HB1 := Lib.hid hb1.drew
  have HB1' := Lib.hid hb1
  clear hdo
  have hk4 : 1 ≤ l.kind ∧ l.kind ≤ 4 := ⟨hme.1, hme.2.1⟩
  rw [decide_eq_true hk4]
  have HS2 : Hid (∀ w2, Below w.heap.size w w2 → SL l ver A d n id P lb pb w2) := Lib.hid fun w2 hb => by
    obtain ⟨l0, l1, l2, l3, l4, l5, l6, l7, l8, l9⟩ := cells10 (HL.out.below hb HL.out.lt)
    obtain ⟨c0, c1, c2, c3, c4, c5, c6, c7, c8, c9, c10, c11, c12, c13⟩ := (HH.out.below hb).cells
    exact ⟨l0, l1, l2, l3, l4, l5, l6, l7, l8, l9, (HPB.out.below hb HPB.out.lt).cell 0, c5, c6⟩
  have hRC := right_any l ver A d K w1.drew hlen (HENT.out.keep (fun b hb => HB1.out.block b (hKo b hb).1) (fun _ h => h)) (fun b hb => Nat.lt_of_lt_of_le (hKo b hb).1 HB1.out.size)
  clear l0 l1 l2 l3 l4 l5 l6 l7 l8 l9 hpc hb1
  go_wp2_with fail
  have hq := HS2.out _ HB1.out
  replace hRC := hRC.mono (R' := fun e w' => e = .returned (.bool true) ∧ Below w1.drew.heap.size w1.drew w') (by
    rintro e w2 ⟨b', rfl, hb', hb2⟩
    have hbb : b' = true := hb'.mpr HBR.out
    exact ⟨by rw [hbb], hb2⟩)
  simp only [ltA, ltV] at hRC
  have e1 := hme.2.2.1
  have e2 : (l.src == id) = false := by simp [hme.2.2.2.1]
  have e3 : decide (l.src < 1) = false := decide_eq_false (by have := hme.2.2.2.2.1; omega)
  have e4 : decide (n < l.src) = false := decide_eq_false (by have := hme.2.2.2.2.2; omega)
  have HME := Lib.hid hme
  clear hme
  refine wp_region_held_drew (S := fun w' => SL l ver A d n id P lb pb w') (by kernel_rfl) hq (fun hS => ?_)
  refine wpAnyH_take (i := 0) (v := ?_) rfl (by kernel_rfl) (by kernel_rfl) (by kernel_rfl) (fun _ _ _ h => h) (Or.inl ⟨by rfl, ?_⟩) hS ?_
  rotate_left 1
  · intro w' hSw
    go_simp <;> with_reducible rfl
  try simp only [List.getElem_toArray, List.getElem_cons_zero, List.getElem_cons_succ, Act.put, List.setIfInBounds_toArray, List.set_cons_zero, List.set_cons_succ]
  refine wpAnyH_take (i := 1) (v := ?_) rfl (by kernel_rfl) (by kernel_rfl) (by kernel_rfl) (fun _ _ _ h => h) (Or.inl ⟨by rfl, ?_⟩) hS ?_
  rotate_left 1
  · intro w' hSw
    go_simp <;> with_reducible rfl
  try simp only [List.getElem_toArray, List.getElem_cons_zero, List.getElem_cons_succ, Act.put, List.setIfInBounds_toArray, List.set_cons_zero, List.set_cons_succ]
  refine wpAnyH_take (i := 2) (v := ?_) rfl (by kernel_rfl) (by kernel_rfl) (by kernel_rfl) (fun _ _ _ h => h) (Or.inl ⟨by rfl, ?_⟩) hS ?_
  rotate_left 1
  · intro w' hSw
    go_simp <;> with_reducible rfl
  try simp only [List.getElem_toArray, List.getElem_cons_zero, List.getElem_cons_succ, Act.put, List.setIfInBounds_toArray, List.set_cons_zero, List.set_cons_succ]
  refine wpAnyH_take (i := 3) (v := ?_) rfl (by kernel_rfl) (by kernel_rfl) (by kernel_rfl) (fun _ _ _ h => h) (Or.inl ⟨by go_simp, ?_⟩) hS ?_
  rotate_left 1
  · intro w' hSw
    go_simp <;> with_reducible rfl
  try simp only [List.getElem_toArray, List.getElem_cons_zero, List.getElem_cons_succ, Act.put, List.setIfInBounds_toArray, List.set_cons_zero, List.set_cons_succ]
  refine wpAnyH_ready (rs := [4]) (by kernel_rfl) (by simp) (AllReadyH.cons rfl (fun K hK => ?_) AllReadyH.nil)
  go_simp
  first | (with_reducible refine hRC.mono ?_) | (simp only [e1] at hRC; with_reducible refine hRC.mono ?_) | (simp only [e1, e2] at hRC; with_reducible refine hRC.mono ?_)
  rintro _ w2 ⟨rfl, hb2⟩
  have HB2 := Lib.hid (HB1.out.trans (hb2.mono HB1.out.size))
  have q := HS2.out _ HB2.out
  have HQ := Lib.hid q
  go_simp
  refine hK _ _ q (fun hS => ?_)
  clear hK K hRC hb2 q
  try simp only [List.getElem_toArray, List.getElem_cons_zero, List.getElem_cons_succ, Act.put, List.setIfInBounds_toArray, List.set_cons_zero, List.set_cons_succ]
  try simp only [List.getElem_toArray, List.getElem_cons_zero, List.getElem_cons_succ, Act.put, List.setIfInBounds_toArray, List.set_cons_zero, List.set_cons_succ]
  refine wpAnyH_take (i := 5) (v := ?_) rfl (by kernel_rfl) (by kernel_rfl) (by kernel_rfl) (fun _ _ _ h => h) (Or.inl ⟨by go_simp, ?_⟩) hS ?_
  rotate_left 1
  · intro w' hSw
    go_simp <;> with_reducible rfl
  try simp only [List.getElem_toArray, List.getElem_cons_zero, List.getElem_cons_succ, Act.put, List.setIfInBounds_toArray, List.set_cons_zero, List.set_cons_succ]
  refine wpAnyH_take (i := 6) (v := ?_) rfl (by kernel_rfl) (by kernel_rfl) (by kernel_rfl) (fun _ _ _ h => h) (Or.inl ⟨by rfl, ?_⟩) hS ?_
  rotate_left 1
  · intro w' hSw
    go_simp <;> with_reducible rfl
  try simp only [List.getElem_toArray, List.getElem_cons_zero, List.getElem_cons_succ, Act.put, List.setIfInBounds_toArray, List.set_cons_zero, List.set_cons_succ]
  refine wpAnyH_take (i := 7) (v := ?_) rfl (by kernel_rfl) (by kernel_rfl) (by kernel_rfl) (fun _ _ _ h => h) (Or.inl ⟨by rfl, ?_⟩) hS ?_
  rotate_left 1
  · intro w' hSw
    go_simp <;> with_reducible rfl
  try simp only [List.getElem_toArray, List.getElem_cons_zero, List.getElem_cons_succ, Act.put, List.setIfInBounds_toArray, List.set_cons_zero, List.set_cons_succ]
  refine wpAnyH_take (i := 8) (v := ?_) rfl (by kernel_rfl) (by kernel_rfl) (by kernel_rfl) (fun _ _ _ h => h) (Or.inl ⟨by go_simp, ?_⟩) hS ?_
  rotate_left 1
  · intro w' hSw
    go_simp <;> with_reducible rfl
  try simp only [List.getElem_toArray, List.getElem_cons_zero, List.getElem_cons_succ, Act.put, List.setIfInBounds_toArray, List.set_cons_zero, List.set_cons_succ]
  refine wpAnyH_take (i := 9) (v := ?_) rfl (by kernel_rfl) (by kernel_rfl) (by kernel_rfl) (fun _ _ _ h => h) (Or.inl ⟨by go_simp, ?_⟩) hS ?_
  rotate_left 1
  · intro w' hSw
    go_simp <;> with_reducible rfl
  try simp only [List.getElem_toArray, List.getElem_cons_zero, List.getElem_cons_succ, Act.put, List.setIfInBounds_toArray, List.set_cons_zero, List.set_cons_succ]
  refine wpAnyH_take (i := 10) (v := ?_) rfl (by kernel_rfl) (by kernel_rfl) (by kernel_rfl) (fun _ _ _ h => h) (Or.inl ⟨by go_simp, ?_⟩) hS ?_
  rotate_left 1
  · intro w' hSw
    go_simp <;> with_reducible rfl
  try simp only [List.getElem_toArray, List.getElem_cons_zero, List.getElem_cons_succ, Act.put, List.setIfInBounds_toArray, List.set_cons_zero, List.set_cons_succ]
  refine wpAnyH_take (i := 11) (v := ?_) rfl (by kernel_rfl) (by kernel_rfl) (by kernel_rfl) (fun _ _ _ h => h) (Or.inl ⟨by go_simp, ?_⟩) hS ?_
  rotate_left 1
  · intro w' hSw
    go_simp <;> with_reducible rfl
  try simp only [List.getElem_toArray, List.getElem_cons_zero, List.getElem_cons_succ, Act.put, List.setIfInBounds_toArray, List.set_cons_zero, List.set_cons_succ]
  refine wpAnyH_take (i := 12) (v := ?_) rfl (by kernel_rfl) (by kernel_rfl) (by kernel_rfl) (fun _ _ _ h => h) (Or.inl ⟨by go_simp, ?_⟩) hS ?_
  rotate_left 1
  · intro w' hSw
    go_simp <;> with_reducible rfl
  try simp only [List.getElem_toArray, List.getElem_cons_zero, List.getElem_cons_succ, Act.put, List.setIfInBounds_toArray, List.set_cons_zero, List.set_cons_succ]
  refine wpAnyH_take (i := 13) (v := ?_) rfl (by kernel_rfl) (by kernel_rfl) (by kernel_rfl) (fun _ _ _ h => h) (Or.inl ⟨by go_simp, ?_⟩) hS ?_
  rotate_left 1
  · intro w' hSw
    go_simp <;> with_reducible rfl
  try simp only [List.getElem_toArray, List.getElem_cons_zero, List.getElem_cons_succ, Act.put, List.setIfInBounds_toArray, List.set_cons_zero, List.set_cons_succ]
  refine wpAnyH_take (i := 14) (v := ?_) rfl (by kernel_rfl) (by kernel_rfl) (by kernel_rfl) (fun _ _ _ h => h) (Or.inl ⟨by go_simp, ?_⟩) hS ?_
  rotate_left 1
  · intro w' hSw
    go_simp <;> with_reducible rfl
  try simp only [List.getElem_toArray, List.getElem_cons_zero, List.getElem_cons_succ, Act.put, List.setIfInBounds_toArray, List.set_cons_zero, List.set_cons_succ]
  refine wpAnyH_take (i := 15) (v := ?_) rfl (by kernel_rfl) (by kernel_rfl) (by kernel_rfl) (fun _ _ _ h => h) (Or.inl ⟨by rfl, ?_⟩) hS ?_
  rotate_left 1
  · intro w' hSw
    go_simp <;> with_reducible rfl
  try simp only [List.getElem_toArray, List.getElem_cons_zero, List.getElem_cons_succ, Act.put, List.setIfInBounds_toArray, List.set_cons_zero, List.set_cons_succ]
  refine wpAnyH_take (i := 16) (v := ?_) rfl (by kernel_rfl) (by kernel_rfl) (by kernel_rfl) (fun _ _ _ h => h) (Or.inl ⟨by rfl, ?_⟩) hS ?_
  rotate_left 1
  · intro w' hSw
    go_simp <;> with_reducible rfl
  try simp only [List.getElem_toArray, List.getElem_cons_zero, List.getElem_cons_succ, Act.put, List.setIfInBounds_toArray, List.set_cons_zero, List.set_cons_succ]
  refine wpAnyH_take (i := 17) (v := ?_) rfl (by kernel_rfl) (by kernel_rfl) (by kernel_rfl) (fun _ _ _ h => h) (Or.inl ⟨by go_simp, ?_⟩) hS ?_
  rotate_left 1
  · intro w' hSw
    go_simp <;> with_reducible rfl
  try simp only [List.getElem_toArray, List.getElem_cons_zero, List.getElem_cons_succ, Act.put, List.setIfInBounds_toArray, List.set_cons_zero, List.set_cons_succ]
  refine wpAnyH_take (i := 18) (v := ?_) rfl (by kernel_rfl) (by kernel_rfl) (by kernel_rfl) (fun _ _ _ h => h) (Or.inl ⟨by go_simp, ?_⟩) hS ?_
  rotate_left 1
  · intro w' hSw
    go_simp <;> with_reducible rfl
  try simp only [List.getElem_toArray, List.getElem_cons_zero, List.getElem_cons_succ, Act.put, List.setIfInBounds_toArray, List.set_cons_zero, List.set_cons_succ]
  refine wpAnyH_take (i := 19) (v := ?_) rfl (by kernel_rfl) (by kernel_rfl) (by kernel_rfl) (fun _ _ _ h => h) (Or.inl ⟨by go_simp, ?_⟩) hS ?_
  rotate_left 1
  · intro w' hSw
    go_simp <;> with_reducible rfl
  try simp only [List.getElem_toArray, List.getElem_cons_zero, List.getElem_cons_succ, Act.put, List.setIfInBounds_toArray, List.set_cons_zero, List.set_cons_succ]
  refine wpAnyH_take (i := 20) (v := ?_) rfl (by kernel_rfl) (by kernel_rfl) (by kernel_rfl) (fun _ _ _ h => h) (Or.inl ⟨by go_simp, ?_⟩) hS ?_
  rotate_left 1
  · intro w' hSw
    go_simp <;> with_reducible rfl
  try simp only [List.getElem_toArray, List.getElem_cons_zero, List.getElem_cons_succ, Act.put, List.setIfInBounds_toArray, List.set_cons_zero, List.set_cons_succ]
  refine wpAnyH_take (i := 21) (v := ?_) rfl (by kernel_rfl) (by kernel_rfl) (by kernel_rfl) (fun _ _ _ h => h) (Or.inl ⟨by go_simp, ?_⟩) hS ?_
  rotate_left 1
  · intro w' hSw
    go_simp <;> with_reducible rfl
  try simp only [List.getElem_toArray, List.getElem_cons_zero, List.getElem_cons_succ, Act.put, List.setIfInBounds_toArray, List.set_cons_zero, List.set_cons_succ]
  refine wpAnyH_take (i := 22) (v := ?_) rfl (by kernel_rfl) (by kernel_rfl) (by kernel_rfl) (fun _ _ _ h => h) (Or.inl ⟨by go_simp, ?_⟩) hS ?_
  rotate_left 1
  · intro w' hSw
    go_simp <;> with_reducible rfl
  try simp only [List.getElem_toArray, List.getElem_cons_zero, List.getElem_cons_succ, Act.put, List.setIfInBounds_toArray, List.set_cons_zero, List.set_cons_succ]
  refine wpAnyH_take (i := 23) (v := ?_) rfl (by kernel_rfl) (by kernel_rfl) (by kernel_rfl) (fun _ _ _ h => h) (Or.inl ⟨by go_simp, ?_⟩) hS ?_
  rotate_left 1
  · intro w' hSw
    go_simp <;> with_reducible rfl
  try simp only [List.getElem_toArray, List.getElem_cons_zero, List.getElem_cons_succ, Act.put, List.setIfInBounds_toArray, List.set_cons_zero, List.set_cons_succ]
  refine wpAnyH_take (i := 24) (v := ?_) rfl (by kernel_rfl) (by kernel_rfl) (by kernel_rfl) (fun _ _ _ h => h) (Or.inl ⟨by rfl, ?_⟩) hS ?_
  rotate_left 1
  · intro w' hSw
    go_simp <;> with_reducible rfl
  try simp only [List.getElem_toArray, List.getElem_cons_zero, List.getElem_cons_succ, Act.put, List.setIfInBounds_toArray, List.set_cons_zero, List.set_cons_succ]
  refine wpAnyH_take (i := 25) (v := ?_) rfl (by kernel_rfl) (by kernel_rfl) (by kernel_rfl) (fun _ _ _ h => h) (Or.inl ⟨by rfl, ?_⟩) hS ?_
  rotate_left 1
  · intro w' hSw
    go_simp <;> with_reducible rfl
  try simp only [List.getElem_toArray, List.getElem_cons_zero, List.getElem_cons_succ, Act.put, List.setIfInBounds_toArray, List.set_cons_zero, List.set_cons_succ]
  refine wpAnyH_take (i := 26) (v := ?_) rfl (by kernel_rfl) (by kernel_rfl) (by kernel_rfl) (fun _ _ _ h => h) (Or.inl ⟨by go_simp, ?_⟩) hS ?_
  rotate_left 1
  · intro w' hSw
    go_simp <;> with_reducible rfl
  try simp only [List.getElem_toArray, List.getElem_cons_zero, List.getElem_cons_succ, Act.put, List.setIfInBounds_toArray, List.set_cons_zero, List.set_cons_succ]
  refine wpAnyH_take (i := 27) (v := ?_) rfl (by kernel_rfl) (by kernel_rfl) (by kernel_rfl) (fun _ _ _ h => h) (Or.inl ⟨by go_simp, ?_⟩) hS ?_
  rotate_left 1
  · intro w' hSw
    go_simp <;> with_reducible rfl
  try simp only [List.getElem_toArray, List.getElem_cons_zero, List.getElem_cons_succ, Act.put, List.setIfInBounds_toArray, List.set_cons_zero, List.set_cons_succ]
  refine wpAnyH_take (i := 28) (v := ?_) rfl (by kernel_rfl) (by kernel_rfl) (by kernel_rfl) (fun _ _ _ h => h) (Or.inl ⟨by go_simp, ?_⟩) hS ?_
  rotate_left 1
  · intro w' hSw
    go_simp <;> with_reducible rfl
  try simp only [List.getElem_toArray, List.getElem_cons_zero, List.getElem_cons_succ, Act.put, List.setIfInBounds_toArray, List.set_cons_zero, List.set_cons_succ]
  refine wpAnyH_take (i := 29) (v := ?_) rfl (by kernel_rfl) (by kernel_rfl) (by kernel_rfl) (fun _ _ _ h => h) (Or.inl ⟨by rfl, ?_⟩) hS ?_
  rotate_left 1
  · intro w' hSw
    go_simp <;> with_reducible rfl
  try simp only [List.getElem_toArray, List.getElem_cons_zero, List.getElem_cons_succ, Act.put, List.setIfInBounds_toArray, List.set_cons_zero, List.set_cons_succ]
  refine wpAnyH_take (i := 30) (v := ?_) rfl (by kernel_rfl) (by kernel_rfl) (by kernel_rfl) (fun _ _ _ h => h) (Or.inl ⟨by rfl, ?_⟩) hS ?_
  rotate_left 1
  · intro w' hSw
    go_simp <;> with_reducible rfl
  try simp only [List.getElem_toArray, List.getElem_cons_zero, List.getElem_cons_succ, Act.put, List.setIfInBounds_toArray, List.set_cons_zero, List.set_cons_succ]
  refine wpAnyH_take (i := 31) (v := ?_) rfl (by kernel_rfl) (by kernel_rfl) (by kernel_rfl) (fun _ _ _ h => h) (Or.inl ⟨by go_simp, ?_⟩) hS ?_
  rotate_left 1
  · intro w' hSw
    go_simp <;> with_reducible rfl
  try simp only [List.getElem_toArray, List.getElem_cons_zero, List.getElem_cons_succ, Act.put, List.setIfInBounds_toArray, List.set_cons_zero, List.set_cons_succ]
  refine wpAnyH_take (i := 32) (v := ?_) rfl (by kernel_rfl) (by kernel_rfl) (by kernel_rfl) (fun _ _ _ h => h) (Or.inl ⟨by go_simp, ?_⟩) hS ?_
  rotate_left 1
  · intro w' hSw
    go_simp <;> with_reducible rfl
  try simp only [List.getElem_toArray, List.getElem_cons_zero, List.getElem_cons_succ, Act.put, List.setIfInBounds_toArray, List.set_cons_zero, List.set_cons_succ]
  refine wpAnyH_take (i := 33) (v := ?_) rfl (by kernel_rfl) (by kernel_rfl) (by kernel_rfl) (fun _ _ _ h => h) (Or.inl ⟨by go_simp, ?_⟩) hS ?_
  rotate_left 1
  · intro w' hSw
    go_simp <;> with_reducible rfl
  try simp only [List.getElem_toArray, List.getElem_cons_zero, List.getElem_cons_succ, Act.put, List.setIfInBounds_toArray, List.set_cons_zero, List.set_cons_succ]
  refine wpAnyH_take (i := 34) (v := ?_) rfl (by kernel_rfl) (by kernel_rfl) (by kernel_rfl) (fun _ _ _ h => h) (Or.inl ⟨by go_simp, ?_⟩) hS ?_
  rotate_left 1
  · intro w' hSw
    go_simp <;> with_reducible rfl
  try simp only [List.getElem_toArray, List.getElem_cons_zero, List.getElem_cons_succ, Act.put, List.setIfInBounds_toArray, List.set_cons_zero, List.set_cons_succ]
  refine wpAnyH_take (i := 35) (v := ?_) rfl (by kernel_rfl) (by kernel_rfl) (by kernel_rfl) (fun _ _ _ h => h) (Or.inl ⟨by go_simp, ?_⟩) hS ?_
  rotate_left 1
  · intro w' hSw
    go_simp <;> with_reducible rfl
  try simp only [List.getElem_toArray, List.getElem_cons_zero, List.getElem_cons_succ, Act.put, List.setIfInBounds_toArray, List.set_cons_zero, List.set_cons_succ]
  refine wpAnyH_take (i := 36) (v := ?_) rfl (by kernel_rfl) (by kernel_rfl) (by kernel_rfl) (fun _ _ _ h => h) (Or.inl ⟨by go_simp, ?_⟩) hS ?_
  rotate_left 1
  · intro w' hSw
    go_simp <;> with_reducible rfl
  try simp only [List.getElem_toArray, List.getElem_cons_zero, List.getElem_cons_succ, Act.put, List.setIfInBounds_toArray, List.set_cons_zero, List.set_cons_succ]
  refine wpAnyH_take (i := 37) (v := ?_) rfl (by kernel_rfl) (by kernel_rfl) (by kernel_rfl) (fun _ _ _ h => h) (Or.inl ⟨by go_simp, ?_⟩) hS ?_
  rotate_left 1
  · intro w' hSw
    go_simp <;> with_reducible rfl
  try simp only [List.getElem_toArray, List.getElem_cons_zero, List.getElem_cons_succ, Act.put, List.setIfInBounds_toArray, List.set_cons_zero, List.set_cons_succ]
  refine wpAnyH_take (i := 38) (v := ?_) rfl (by kernel_rfl) (by kernel_rfl) (by kernel_rfl) (fun _ _ _ h => h) (Or.inl ⟨by rfl, ?_⟩) hS ?_
  rotate_left 1
  · intro w' hSw
    go_simp <;> with_reducible rfl
  try simp only [List.getElem_toArray, List.getElem_cons_zero, List.getElem_cons_succ, Act.put, List.setIfInBounds_toArray, List.set_cons_zero, List.set_cons_succ]
  refine wpAnyH_done (by kernel_rfl) ?_ _
  have HB2' := HB2
  have hL2 := HL.out.below HB2.out HL.out.lt
  have hP2 := HH.out.below HB2.out
  have hPB2 := HPB.out.below HB2.out HPB.out.lt
  have hE2 := HENT.out.keep (fun b hb => HB2.out.block b (hKo b hb).1) (fun _ h => h)
  have hrt := right_term (HBR.out) HME.out.1 HME.out.2.1
  have H2 := Lib.hid hP2
  have HL2 := Lib.hid hL2
  have HPB2 := Lib.hid hPB2
  have HE2 := Lib.hid hE2
  have HRT := Lib.hid hrt
  clear hrt hL2 hP2 hPB2 hE2 hS HS2 HQ hq e1 e2 e3 e4
  obtain ⟨l0, l1, l2, l3, l4, l5, l6, l7, l8, l9⟩ := cells10 HL2.out
  obtain ⟨c0, c1, c2, c3, c4, c5, c6, c7, c8, c9, c10, c11, c12, c13⟩ := H2.out.cells
  have hpc : w2.cell? ⟨pb, 0, none⟩ = some (.pointer (some ⟨P, 0, none⟩)) := HPB2.out.cell 0
  have hPn1 : P ≠ pb := fun e => n2 (.inl e.symm)
  have hPn2 : pb ≠ P := fun e => n2 (.inl e)
  have hPn3 : lb ≠ P := fun e => n1 (.inl e)
  have hPn4 : P ≠ lb := fun e => n1 (.inl e.symm)
  by_cases ht : c.p.T < l.term
  · have dt : decide (c.p.T < l.term) = true := decide_eq_true ht
    have HUP := Lib.hid (letter_up HME.out ht)
    have HK3 := Lib.hid (HK.out.rise HRT.out.1 HRT.out.2)
    have f0 := H2.out.frozen 0
    have f1 := H2.out.frozen 1
    have f8 := H2.out.frozen 8
    have f9 := H2.out.frozen 9
    clear ht
    go_wp2_with fail
    go_quiet (fail)
    clear c2 c4 c5 c6 c7 c10 c11 c12 c13 l0 l1 l2 l4 l5 l6 l7 l8 l9
    go_wp2_with fail
    go_region
    have hdn : Below w2.heap.size w2 (w2.drewN (nq + 1)) := ⟨rfl, rfl, rfl, Nat.le_refl _, fun _ _ => rfl⟩
    have H3 := Lib.hid ((H2.out.below hdn).rise l.term)
    have A3 : Ag (fun b => b ≠ P) w2 _ := (Ag.of_below _ hdn).trans (rise_ag (w2.drewN (nq + 1)) P (.int .i64 l.term) (.int .i64 0) (.int .i64 1) (.int .i64 0))
    clear c0 c1 c3 c8 c9 l3 hpc hdn dt f0 f1 f8 f9
    generalize (((((w2.drewN (nq + 1)).setCell ⟨P, 0, none⟩ (.int .i64 l.term)).setCell ⟨P, 1, none⟩ (.int .i64 0)).setCell ⟨P, 8, none⟩ (.int .i64 1)).setCell ⟨P, 9, none⟩ (.int .i64 0)) = w3 at *
    have ho3 : (riseP l.term c).out.length ≤ 10000 := ho
    have hmat3 : (riseP l.term c).p.role = 3 → 0 ≤ (riseP l.term c).p.mat l.src := fun e => absurd (show (1 : Int) = 3 from e) (by decide)
    generalize (riseP l.term c) = cc at *
    have HA3 := Lib.hid ((Ag.of_below (fun b => b ≠ P) HB2.out).trans A3)
    have HL3 := Lib.hid (HL2.out.ag A3 hPn3)
    have HPB3 := Lib.hid (HPB2.out.ag A3 hPn2)
    have HE3 := Lib.hid (HE2.out.keep (fun b hb => A3.block b (Nat.lt_of_lt_of_le (hKo b hb).1 HB2.out.size) (fun e => (hKo b hb).2 (.inl e))) (fun _ h => h))
    have hKo3 : ∀ b, K b → b < w3.heap.size ∧ ¬ m.Own P b := fun b hb => ⟨Nat.lt_of_lt_of_le (hKo b hb).1 HA3.out.size, (hKo b hb).2⟩
    clear A3 hKo hPn1 hPn2 hPn3 hPn4
    obtain ⟨c0, c1, c2, c3, c4, c5, c6, c7, c8, c9, c10, c11, c12, c13⟩ := H3.out.cells
    obtain ⟨l0, l1, l2, l3, l4, l5, l6, l7, l8, l9⟩ := cells10 HL3.out
    have hpc : w3.cell? ⟨pb, 0, none⟩ = some (.pointer (some ⟨P, 0, none⟩)) := HPB3.out.cell 0
    clear c1 c2 c3 c4 c5 c6 c7 c8 c9 c10 c11 c12 c13
    by_cases hte : l.term = cc.p.T
    · have ed : (cc.p.T == l.term) = true := by simp [hte]
      have HTE := Lib.hid hte
      clear hte
      go_wp2_with fail
      go_quiet (fail)
      have hdn : Below w3.heap.size w3 (w3.drewN nq) := ⟨rfl, rfl, rfl, Nat.le_refl _, fun _ _ => rfl⟩
      have H4 := Lib.hid (H3.out.below hdn)
      have HA4 := Lib.hid (HA3.out.trans (Ag.of_below (fun b => b ≠ P) hdn))
      have HL4 := Lib.hid (HL3.out.below hdn HL3.out.lt)
      have HPB4 := Lib.hid (HPB3.out.below hdn HPB3.out.lt)
      have HE4 := Lib.hid (HE3.out.keep (fun b hb => hdn.block b (hKo3 b hb).1) (fun _ h => h))
      have hKo4 : ∀ b, K b → b < (w3.drewN nq).heap.size ∧ ¬ m.Own P b := hKo3
      clear c0 l0 l1 l2 l3 l4 l5 l6 l7 l8 l9 hpc hKo3 hdn
      generalize w3.drewN nq = w4 at *
      obtain ⟨l0, l1, l2, l3, l4, l5, l6, l7, l8, l9⟩ := cells10 HL4.out
      have hpc : w4.cell? ⟨pb, 0, none⟩ = some (.pointer (some ⟨P, 0, none⟩)) := HPB4.out.cell 0
      by_cases k1 : l.kind = 1
      · have hC := asked_any l ver A d H4.out HK3.out (by omega)
        have hF : letterP En.term noopE n id true l c = askedP En.term id l cc := by rw [HUP.out]; unfold afterP; rw [if_pos HTE.out, if_pos k1]
        rw [show doV l.kind = .func (.func 52) #[] #[] by unfold doV; rw [if_pos k1]]
        have HF := Lib.hid hF
        try clear k1
        try clear k2
        try clear k3
        try clear k4
        simp only [ltA, ltV] at hC
        clear hF
        go_wp2_with fail
        (with_reducible refine hC.mono ?_)
        rintro _ w5 ⟨rfl, hw⟩
        clear hC
        go_wp2_with fail
        go_end0
        refine ⟨rfl, ?_⟩
        rw [HF.out]
        exact Went.from HA4.out hw
      by_cases k2 : l.kind = 2
      · have hC := voted_any l ver A d H4.out HK3.out (by omega) HME.out.2.2.2.2.1 (by have := HME.out.2.2.2.2.2; have := HK3.out.n7; omega)
        have hF : letterP En.term noopE n id true l c = votedP En.term noopE n id l cc := by rw [HUP.out]; unfold afterP; rw [if_pos HTE.out, if_neg k1, if_pos k2]
        rw [show doV l.kind = .func (.func 53) #[] #[] by unfold doV; rw [if_neg k1, if_pos k2]]
        have HF := Lib.hid hF
        try clear k1
        try clear k2
        try clear k3
        try clear k4
        simp only [ltA, ltV] at hC
        clear hF
        go_wp2_with fail
        (with_reducible refine hC.mono ?_)
        rintro _ w5 ⟨rfl, hw⟩
        clear hC
        go_wp2_with fail
        go_end0
        refine ⟨rfl, ?_⟩
        rw [HF.out]
        exact Went.from HA4.out hw
      by_cases k3 : l.kind = 3
      · have hPO := right_puts HBR.out k3
        have hC := fed_any l ver A d K H4.out HK3.out (by omega) HE4.out hKo4 (by have := hPO.2.2.2.2.2.1.1; omega) (by have := hPO.2.2.2.2.2.1.2; omega) (by have := hPO.2.1; omega) hd
        have hF : letterP En.term noopE n id true l c = fedP En.term id l cc := by rw [HUP.out]; unfold afterP; rw [if_pos HTE.out, if_neg k1, if_neg k2, if_pos k3]
        rw [show doV l.kind = .func (.func 54) #[] #[] by unfold doV; rw [if_neg k1, if_neg k2, if_pos k3]]
        clear hPO
        have HF := Lib.hid hF
        try clear k1
        try clear k2
        try clear k3
        try clear k4
        simp only [ltA, ltV] at hC
        clear hF
        go_wp2_with fail
        (with_reducible refine hC.mono ?_)
        rintro _ w5 ⟨rfl, hw⟩
        clear hC
        go_wp2_with fail
        go_end0
        refine ⟨rfl, ?_⟩
        rw [HF.out]
        exact Went.from HA4.out hw
      · have k4 : l.kind = 4 := by have := HME.out.1; have := HME.out.2.1; omega
        have hC := ate_any l ver A d H4.out HK3.out (by omega) HME.out.2.2.2.2.1 HME.out.2.2.2.2.2 HME.out.2.2.2.1 hmat3
        have hF : letterP En.term noopE n id true l c = ateP En.term n id l cc := by rw [HUP.out]; unfold afterP; rw [if_pos HTE.out, if_neg k1, if_neg k2, if_neg k3]
        rw [show doV l.kind = .func (.func 55) #[] #[] by unfold doV; rw [if_neg k1, if_neg k2, if_neg k3, if_pos k4]]
        have HF := Lib.hid hF
        try clear k1
        try clear k2
        try clear k3
        try clear k4
        simp only [ltA, ltV] at hC
        clear hF
        go_wp2_with fail
        (with_reducible refine hC.mono ?_)
        rintro _ w5 ⟨rfl, hw⟩
        clear hC
        go_wp2_with fail
        go_end0
        refine ⟨rfl, ?_⟩
        rw [HF.out]
        exact Went.from HA4.out hw
    · have ed : (cc.p.T == l.term) = false := by simp; exact fun e => hte e.symm
      have HTE := Lib.hid hte
      clear hte
      go_wp2_with fail
      go_quiet (fail)
      have hdn : Below w3.heap.size w3 (w3.drewN nq) := ⟨rfl, rfl, rfl, Nat.le_refl _, fun _ _ => rfl⟩
      have H4 := Lib.hid (H3.out.below hdn)
      have HA4 := Lib.hid (HA3.out.trans (Ag.of_below (fun b => b ≠ P) hdn))
      have HL4 := Lib.hid (HL3.out.below hdn HL3.out.lt)
      have HPB4 := Lib.hid (HPB3.out.below hdn HPB3.out.lt)
      clear c0 l0 l1 l2 l3 l4 l5 l6 l7 l8 l9 hpc hKo3 hdn
      generalize w3.drewN nq = w4 at *
      obtain ⟨l0, l1, l2, l3, l4, l5, l6, l7, l8, l9⟩ := cells10 HL4.out
      have hpc : w4.cell? ⟨pb, 0, none⟩ = some (.pointer (some ⟨P, 0, none⟩)) := HPB4.out.cell 0
      clear l2 l3 l4 l5 l6 l7 l8 l9
      by_cases k1 : l.kind = 1
      · have hF : letterP En.term noopE n id true l c = sendP id cc l.src (lt0 2) := by rw [HUP.out]; unfold afterP; rw [if_neg HTE.out, if_pos k1]
        have hC := send_bare l.src (lt0 2) rfl H4.out (by omega)
        have q1 : (l.kind == 1) = true := by simp [k1]
        have HF := Lib.hid hF
        try clear k1
        try clear k2
        try clear k3
        try clear k4
        simp only [ltA, ltV, lt0, List.length_nil, List.length_cons] at hC
        clear hF
        go_wp2_with fail
        (with_reducible refine hC.mono ?_)
        rintro _ w5 ⟨rfl, hw⟩
        clear hC
        go_wp2_with fail
        go_end0
        refine ⟨rfl, ?_⟩
        rw [HF.out]
        exact Went.from HA4.out hw
      by_cases k3 : l.kind = 3
      · have hF : letterP En.term noopE n id true l c = sendP id cc l.src (lt0 4) := by rw [HUP.out]; unfold afterP; rw [if_neg HTE.out, if_neg k1, if_pos k3]
        have hC := send_bare l.src (lt0 4) rfl H4.out (by omega)
        have q1 : (l.kind == 1) = false := by simp [k1]
        have q3 : (l.kind == 3) = true := by simp [k3]
        have HF := Lib.hid hF
        try clear k1
        try clear k2
        try clear k3
        try clear k4
        simp only [ltA, ltV, lt0, List.length_nil, List.length_cons] at hC
        clear hF
        go_wp2_with fail
        (with_reducible refine hC.mono ?_)
        rintro _ w5 ⟨rfl, hw⟩
        clear hC
        go_wp2_with fail
        go_end0
        refine ⟨rfl, ?_⟩
        rw [HF.out]
        exact Went.from HA4.out hw
      · have hF : letterP En.term noopE n id true l c = cc := by rw [HUP.out]; unfold afterP; rw [if_neg HTE.out, if_neg k1, if_neg k3]
        have q1 : (l.kind == 1) = false := by simp [k1]
        have q3 : (l.kind == 3) = false := by simp [k3]
        have HF := Lib.hid hF
        clear hF
        go_wp2_with fail
        go_end0
        refine ⟨rfl, ?_⟩
        rw [HF.out]
        exact Went.from HA4.out (Went.refl H4.out)
  · have dt : decide (c.p.T < l.term) = false := decide_eq_false ht
    have HUP := Lib.hid (letter_at (c := c) HME.out ht)
    have HK3 := HK
    clear ht
    go_wp2_with fail
    go_quiet (fail)
    clear c0 c1 c2 c3 c4 c5 c6 c7 c8 c9 c10 c11 c12 c13 l0 l1 l2 l3 l4 l5 l6 l7 l8 l9 hpc dt
    have hdn : Below w2.heap.size w2 (w2.drewN nq) := ⟨rfl, rfl, rfl, Nat.le_refl _, fun _ _ => rfl⟩
    have H3 := Lib.hid (H2.out.below hdn)
    have A3 : Ag (fun b => b ≠ P) w2 (w2.drewN nq) := Ag.of_below _ hdn
    clear hdn
    generalize w2.drewN nq = w3 at *
    have ho3 := ho
    have hmat3 := hmat
    have HA3 := Lib.hid ((Ag.of_below (fun b => b ≠ P) HB2.out).trans A3)
    have HL3 := Lib.hid (HL2.out.ag A3 hPn3)
    have HPB3 := Lib.hid (HPB2.out.ag A3 hPn2)
    have HE3 := Lib.hid (HE2.out.keep (fun b hb => A3.block b (Nat.lt_of_lt_of_le (hKo b hb).1 HB2.out.size) (fun e => (hKo b hb).2 (.inl e))) (fun _ h => h))
    have hKo3 : ∀ b, K b → b < w3.heap.size ∧ ¬ m.Own P b := fun b hb => ⟨Nat.lt_of_lt_of_le (hKo b hb).1 HA3.out.size, (hKo b hb).2⟩
    clear A3 hKo hPn1 hPn2 hPn3 hPn4
    obtain ⟨c0, c1, c2, c3, c4, c5, c6, c7, c8, c9, c10, c11, c12, c13⟩ := H3.out.cells
    obtain ⟨l0, l1, l2, l3, l4, l5, l6, l7, l8, l9⟩ := cells10 HL3.out
    have hpc : w3.cell? ⟨pb, 0, none⟩ = some (.pointer (some ⟨P, 0, none⟩)) := HPB3.out.cell 0
    clear c1 c2 c3 c4 c5 c6 c7 c8 c9 c10 c11 c12 c13
    by_cases hte : l.term = c.p.T
    · have ed : (c.p.T == l.term) = true := by simp [hte]
      have HTE := Lib.hid hte
      clear hte
      go_wp2_with fail
      go_quiet (fail)
      have hdn : Below w3.heap.size w3 (w3.drewN nq) := ⟨rfl, rfl, rfl, Nat.le_refl _, fun _ _ => rfl⟩
      have H4 := Lib.hid (H3.out.below hdn)
      have HA4 := Lib.hid (HA3.out.trans (Ag.of_below (fun b => b ≠ P) hdn))
      have HL4 := Lib.hid (HL3.out.below hdn HL3.out.lt)
      have HPB4 := Lib.hid (HPB3.out.below hdn HPB3.out.lt)
      have HE4 := Lib.hid (HE3.out.keep (fun b hb => hdn.block b (hKo3 b hb).1) (fun _ h => h))
      have hKo4 : ∀ b, K b → b < (w3.drewN nq).heap.size ∧ ¬ m.Own P b := hKo3
      clear c0 l0 l1 l2 l3 l4 l5 l6 l7 l8 l9 hpc hKo3 hdn
      generalize w3.drewN nq = w4 at *
      obtain ⟨l0, l1, l2, l3, l4, l5, l6, l7, l8, l9⟩ := cells10 HL4.out
      have hpc : w4.cell? ⟨pb, 0, none⟩ = some (.pointer (some ⟨P, 0, none⟩)) := HPB4.out.cell 0
      by_cases k1 : l.kind = 1
      · have hC := asked_any l ver A d H4.out HK3.out (by omega)
        have hF : letterP En.term noopE n id true l c = askedP En.term id l c := by rw [HUP.out]; unfold afterP; rw [if_pos HTE.out, if_pos k1]
        rw [show doV l.kind = .func (.func 52) #[] #[] by unfold doV; rw [if_pos k1]]
        have HF := Lib.hid hF
        try clear k1
        try clear k2
        try clear k3
        try clear k4
        simp only [ltA, ltV] at hC
        clear hF
        go_wp2_with fail
        (with_reducible refine hC.mono ?_)
        rintro _ w5 ⟨rfl, hw⟩
        clear hC
        go_wp2_with fail
        go_end0
        refine ⟨rfl, ?_⟩
        rw [HF.out]
        exact Went.from HA4.out hw
      by_cases k2 : l.kind = 2
      · have hC := voted_any l ver A d H4.out HK3.out (by omega) HME.out.2.2.2.2.1 (by have := HME.out.2.2.2.2.2; have := HK3.out.n7; omega)
        have hF : letterP En.term noopE n id true l c = votedP En.term noopE n id l c := by rw [HUP.out]; unfold afterP; rw [if_pos HTE.out, if_neg k1, if_pos k2]
        rw [show doV l.kind = .func (.func 53) #[] #[] by unfold doV; rw [if_neg k1, if_pos k2]]
        have HF := Lib.hid hF
        try clear k1
        try clear k2
        try clear k3
        try clear k4
        simp only [ltA, ltV] at hC
        clear hF
        go_wp2_with fail
        (with_reducible refine hC.mono ?_)
        rintro _ w5 ⟨rfl, hw⟩
        clear hC
        go_wp2_with fail
        go_end0
        refine ⟨rfl, ?_⟩
        rw [HF.out]
        exact Went.from HA4.out hw
      by_cases k3 : l.kind = 3
      · have hPO := right_puts HBR.out k3
        have hC := fed_any l ver A d K H4.out HK3.out (by omega) HE4.out hKo4 (by have := hPO.2.2.2.2.2.1.1; omega) (by have := hPO.2.2.2.2.2.1.2; omega) (by have := hPO.2.1; omega) hd
        have hF : letterP En.term noopE n id true l c = fedP En.term id l c := by rw [HUP.out]; unfold afterP; rw [if_pos HTE.out, if_neg k1, if_neg k2, if_pos k3]
        rw [show doV l.kind = .func (.func 54) #[] #[] by unfold doV; rw [if_neg k1, if_neg k2, if_pos k3]]
        clear hPO
        have HF := Lib.hid hF
        try clear k1
        try clear k2
        try clear k3
        try clear k4
        simp only [ltA, ltV] at hC
        clear hF
        go_wp2_with fail
        (with_reducible refine hC.mono ?_)
        rintro _ w5 ⟨rfl, hw⟩
        clear hC
        go_wp2_with fail
        go_end0
        refine ⟨rfl, ?_⟩
        rw [HF.out]
        exact Went.from HA4.out hw
      · have k4 : l.kind = 4 := by have := HME.out.1; have := HME.out.2.1; omega
        have hC := ate_any l ver A d H4.out HK3.out (by omega) HME.out.2.2.2.2.1 HME.out.2.2.2.2.2 HME.out.2.2.2.1 hmat3
        have hF : letterP En.term noopE n id true l c = ateP En.term n id l c := by rw [HUP.out]; unfold afterP; rw [if_pos HTE.out, if_neg k1, if_neg k2, if_neg k3]
        rw [show doV l.kind = .func (.func 55) #[] #[] by unfold doV; rw [if_neg k1, if_neg k2, if_neg k3, if_pos k4]]
        have HF := Lib.hid hF
        try clear k1
        try clear k2
        try clear k3
        try clear k4
        simp only [ltA, ltV] at hC
        clear hF
        go_wp2_with fail
        (with_reducible refine hC.mono ?_)
        rintro _ w5 ⟨rfl, hw⟩
        clear hC
        go_wp2_with fail
        go_end0
        refine ⟨rfl, ?_⟩
        rw [HF.out]
        exact Went.from HA4.out hw
    · have ed : (c.p.T == l.term) = false := by simp; exact fun e => hte e.symm
      have HTE := Lib.hid hte
      clear hte
      go_wp2_with fail
      go_quiet (fail)
      have hdn : Below w3.heap.size w3 (w3.drewN nq) := ⟨rfl, rfl, rfl, Nat.le_refl _, fun _ _ => rfl⟩
      have H4 := Lib.hid (H3.out.below hdn)
      have HA4 := Lib.hid (HA3.out.trans (Ag.of_below (fun b => b ≠ P) hdn))
      have HL4 := Lib.hid (HL3.out.below hdn HL3.out.lt)
      have HPB4 := Lib.hid (HPB3.out.below hdn HPB3.out.lt)
      clear c0 l0 l1 l2 l3 l4 l5 l6 l7 l8 l9 hpc hKo3 hdn
      generalize w3.drewN nq = w4 at *
      obtain ⟨l0, l1, l2, l3, l4, l5, l6, l7, l8, l9⟩ := cells10 HL4.out
      have hpc : w4.cell? ⟨pb, 0, none⟩ = some (.pointer (some ⟨P, 0, none⟩)) := HPB4.out.cell 0
      clear l2 l3 l4 l5 l6 l7 l8 l9
      by_cases k1 : l.kind = 1
      · have hF : letterP En.term noopE n id true l c = sendP id c l.src (lt0 2) := by rw [HUP.out]; unfold afterP; rw [if_neg HTE.out, if_pos k1]
        have hC := send_bare l.src (lt0 2) rfl H4.out (by omega)
        have q1 : (l.kind == 1) = true := by simp [k1]
        have HF := Lib.hid hF
        try clear k1
        try clear k2
        try clear k3
        try clear k4
        simp only [ltA, ltV, lt0, List.length_nil, List.length_cons] at hC
        clear hF
        go_wp2_with fail
        (with_reducible refine hC.mono ?_)
        rintro _ w5 ⟨rfl, hw⟩
        clear hC
        go_wp2_with fail
        go_end0
        refine ⟨rfl, ?_⟩
        rw [HF.out]
        exact Went.from HA4.out hw
      by_cases k3 : l.kind = 3
      · have hF : letterP En.term noopE n id true l c = sendP id c l.src (lt0 4) := by rw [HUP.out]; unfold afterP; rw [if_neg HTE.out, if_neg k1, if_pos k3]
        have hC := send_bare l.src (lt0 4) rfl H4.out (by omega)
        have q1 : (l.kind == 1) = false := by simp [k1]
        have q3 : (l.kind == 3) = true := by simp [k3]
        have HF := Lib.hid hF
        try clear k1
        try clear k2
        try clear k3
        try clear k4
        simp only [ltA, ltV, lt0, List.length_nil, List.length_cons] at hC
        clear hF
        go_wp2_with fail
        (with_reducible refine hC.mono ?_)
        rintro _ w5 ⟨rfl, hw⟩
        clear hC
        go_wp2_with fail
        go_end0
        refine ⟨rfl, ?_⟩
        rw [HF.out]
        exact Went.from HA4.out hw
      · have hF : letterP En.term noopE n id true l c = c := by rw [HUP.out]; unfold afterP; rw [if_neg HTE.out, if_neg k1, if_neg k3]
        have q1 : (l.kind == 1) = false := by simp [k1]
        have q3 : (l.kind == 3) = false := by simp [k3]
        have HF := Lib.hid hF
        clear hF
        go_wp2_with fail
        go_end0
        refine ⟨rfl, ?_⟩
        rw [HF.out]
        exact Went.from HA4.out (Went.refl H4.out)
end
end Go.Proofs.Ythfofnfkopnbhaa

