/- letter, the walk: kinds, check, Right. -/
import Derived.Deep.RegionHeld3
import Derived.Test.YthfofnfkopnbhaaZ14
namespace Go.Proofs.Ythfofnfkopnbhaa
open Go.RowKit Go.Maps Go.ChangeMaps
set_option linter.unusedVariables false
set_option linter.unusedSimpArgs false
set_option linter.unusedSectionVars false
set_option maxRecDepth 100000

def kindEs : List MapEntry := [fnE 1 87 0, fnE 2 88 1, fnE 3 89 2, fnE 4 90 3, fnE 5 91 4]
theorem kinds_any (w : World) : Calls Try.prog 69 #[] w fun e w' => e = .returned (.map (some w.heap.size)) ∧ w' = w.alloc (.map kindEs.toArray 5) := by
  have hmm := @run_makeMap Try.prog
  go_enter Try.func69, Try.ntmps69
  go_wp2_with fail
  iterate 5
    rw [upd_last Try.underlying121 Try.underlying38]
    rotate_left
    · simp
    · rfl
    simp only [List.nil_append, List.cons_append, Nat.reduceAdd]
    go_wp2_with fail
  go_ret
  exact ⟨rfl, rfl⟩
/-- What looks at a letter of a kind. -/
def lkF (k : Int) : Nat := if k = 1 then 87 else if k = 2 then 88 else if k = 3 then 89 else if k = 4 then 90 else 91
def lkV (k : Int) : Value := if 1 ≤ k ∧ k ≤ 5 then .func (.func (lkF k)) #[] #[] else .nilFunc
theorem look_kind (k : Int) (W : World) (m : Nat) (hb : W.heap[m]? = some (.map kindEs.toArray 5)) : (Instr.lookup 121 (.map (some m)) (.int .u8 k) true).run Try.prog W = .ok (.tuple #[lkV k, .bool (decide (1 ≤ k ∧ k ≤ 5))]) W := by
  by_cases h1 : k = 1
  · subst h1; exact look_hit_at Try.underlying121 Try.underlying38 _ _ kindEs 5 hb 1 0 _ rfl
  by_cases h2 : k = 2
  · subst h2; exact look_hit_at Try.underlying121 Try.underlying38 _ _ kindEs 5 hb 2 1 _ rfl
  by_cases h3 : k = 3
  · subst h3; exact look_hit_at Try.underlying121 Try.underlying38 _ _ kindEs 5 hb 3 2 _ rfl
  by_cases h4 : k = 4
  · subst h4; exact look_hit_at Try.underlying121 Try.underlying38 _ _ kindEs 5 hb 4 3 _ rfl
  by_cases h5 : k = 5
  · subst h5; exact look_hit_at Try.underlying121 Try.underlying38 _ _ kindEs 5 hb 5 4 _ rfl
  rw [look_miss_at Try.underlying121 Try.underlying38 _ _ kindEs 5 hb k .nilFunc (fun w => by kernel_rfl) (by simp [kindEs, fnE, Instr.findNow, Instr.sameNow, beq_false_of_ne h1, beq_false_of_ne h2, beq_false_of_ne h3, beq_false_of_ne h4, beq_false_of_ne h5])]
  rw [show lkV k = .nilFunc by unfold lkV; rw [if_neg (by omega)], show decide (1 ≤ k ∧ k ≤ 5) = false from decide_eq_false (by omega)]
/-- A kind's own part. -/
def KindOk (l : Lt En) (ver : Int) : Prop := if l.kind = 1 then AskOk l ver else if l.kind = 2 then VoteOk l ver else if l.kind = 3 then PutsOk l ver else if l.kind = 4 then DoneOk l ver else AckOk l ver
/-- It is a letter. -/
def RightOk (l : Lt En) (ver : Int) : Prop := (1 ≤ l.kind ∧ l.kind ≤ 5) ∧ (1 ≤ l.src ∧ l.src ≤ 7) ∧ (1 ≤ l.dst ∧ l.dst ≤ 7) ∧ KindOk l ver
theorem kind_any (l : Lt En) (ver : Int) (A : Option Addr) (d : Nat) (K : Nat → Prop) (w : World) (hc : l.ents.length ≤ 9000000000) (he : Ents w K A d l.ents) (hK : ∀ b, K b → b < w.heap.size) (hk : 1 ≤ l.kind ∧ l.kind ≤ 5) :
    Calls Try.prog (lkF l.kind) #[lookA l ver A d] w (MustR (KindOk l ver) w) := by
  unfold KindOk lkF
  by_cases h1 : l.kind = 1
  · rw [if_pos h1, if_pos h1]; exact ask_look l ver A d w hc
  rw [if_neg h1, if_neg h1]
  by_cases h2 : l.kind = 2
  · rw [if_pos h2, if_pos h2]; exact vote_look l ver A d w hc
  rw [if_neg h2, if_neg h2]
  by_cases h3 : l.kind = 3
  · rw [if_pos h3, if_pos h3]; exact puts_look l ver A d K w hc he hK
  rw [if_neg h3, if_neg h3]
  by_cases h4 : l.kind = 4
  · rw [if_pos h4, if_pos h4]; exact done_look l ver A d w hc
  rw [if_neg h4, if_neg h4]
  exact ack_look l ver A d w hc
theorem lk_ent (k : Int) : ∀ args w, (callFunc (lkF k) args).run Try.prog w = .ok (.enter (lkF k) args) w := by
  unfold lkF
  split
  · exact enters_of Try.func87 (by kernel_rfl) rfl
  split
  · exact enters_of Try.func88 (by kernel_rfl) rfl
  split
  · exact enters_of Try.func89 (by kernel_rfl) rfl
  split
  · exact enters_of Try.func90 (by kernel_rfl) rfl
  · exact enters_of Try.func91 (by kernel_rfl) rfl
set_option maxHeartbeats 2000000 in
theorem check_any (l : Lt En) (ver : Int) (A : Option Addr) (d : Nat) (K : Nat → Prop) (w : World) (hc : l.ents.length ≤ 9000000000) (he : Ents w K A d l.ents) (hK : ∀ b, K b → b < w.heap.size) :
    Calls Try.prog 57 #[lookA l ver A d] w (MustR (RightOk l ver) w) := by
  have hb0 : Below w.heap.size w (w.alloc (.cells (ltV l ver A d).toArray 100)) := (Below.refl _ _).alloc (Nat.le_refl _) _
  have hl0 : Bk (w.alloc (.cells (ltV l ver A d).toArray 100)) w.heap.size 100 (ltV l ver A d) := Bk.new w _ _
  obtain ⟨l0, l1, l2, l3, l4, l5, l6, l7, l8, l9⟩ := cells10 hl0
  have HB0 := Lib.hid hb0
  have HL0 := Lib.hid hl0
  clear hb0 hl0
  by_cases hk : 1 ≤ l.kind ∧ l.kind ≤ 5
  · have HK := Lib.hid hk
    clear hk
    go_enter Try.func57, Try.ntmps57
    unfold lookA ltA
    simp only [ltV] at HB0 HL0 l0 l1 l2 l3 l4 l5 l6 l7 l8 l9 ⊢
    go_wp2_with fail
    generalize (w.alloc (.cells #[.int .u8 l.kind, .int .i64 l.src, .int .i64 l.dst, .int .i64 l.term, .int .i64 l.idx, .int .i64 l.was, .bool l.ok, .int .i64 l.com, .int .i64 ver, .slice A l.ents.length d] 100)) = w0 at *
    go_region_held3 (fun w' => w'.cell? ⟨w.heap.size, 0, none⟩ = some (.int .u8 l.kind)) (first | exact l0 | exact L0.out)
      (first | (go_at_call 69; refine (kinds_any _).mono ?_; rintro _ w1 ⟨rfl, hw1⟩; have L0 : Hid (w1.cell? ⟨w.heap.size, 0, none⟩ = some (.int .u8 l.kind)) := Lib.hid (by rw [hw1]; exact (HL0.out.drew.alloc _).cell 0); have hlk : (Instr.lookup 121 (.map (some w0.heap.size)) (.int .u8 l.kind) true).run Try.prog w1 = .ok (.tuple #[.func (.func (lkF l.kind)) #[] #[], .bool true]) w1 := by { rw [look_kind l.kind w1 w0.heap.size (by rw [hw1]; exact heap_alloc_new w0.drew _), show lkV l.kind = .func (.func (lkF l.kind)) #[] #[] by unfold lkV; rw [if_pos HK.out], decide_eq_true HK.out] }; have HB1 : Hid (Below w0.heap.size w0 w1) := Lib.hid (by rw [hw1]; exact (Below.refl _ w0).drew.alloc (Nat.le_refl _) _); clear hw1))
    have HB2 := Lib.hid (HB0.out.trans (HB1.out.mono HB0.out.size))
    have HL2 := Lib.hid (HL0.out.below HB1.out HL0.out.lt)
    clear hlk L0 l0 l1 l2 l3 l4 l5 l6 l7 l8 l9
    obtain ⟨l0, l1, l2, l3, l4, l5, l6, l7, l8, l9⟩ := cells10 HL2.out
    go_wp2_with fail
    have hC := must_any _ _ _ [true] _ (rd_new w1 [.bool true] 4) (by simp)
    simp only [List.length_cons, List.length_nil, Nat.reduceAdd] at hC
    have HPR : Below w1.heap.size w1 _ := ((Below.refl _ w1).alloc (Nat.le_refl _) (.cells #[.bool true] 4))
    refine hC.mono ?_
    rintro e w3 ⟨hb3, ⟨hp3, rfl⟩ | ⟨hp3, rfl⟩⟩
    rotate_left 1
    · exact absurd (fun b hb => by simpa using hb) hp3
    have HB3 := Lib.hid (HB2.out.trans ((HPR.trans (hb3.mono HPR.size)).mono HB2.out.size))
    have HL3 := Lib.hid ((HL2.out.below (HPR.trans (hb3.mono HPR.size)) HL2.out.lt))
    clear hC hb3 hp3 HPR l0 l1 l2 l3 l4 l5 l6 l7 l8 l9
    obtain ⟨l0, l1, l2, l3, l4, l5, l6, l7, l8, l9⟩ := cells10 HL3.out
    go_wp2_with fail
    refine (within_any l.src 1 7 w3).mono ?_
    rintro e w4 ⟨hb4, ⟨hp4, rfl⟩ | ⟨hp4, rfl⟩⟩
    rotate_left 1
    · unfold Thr
      exact ⟨rfl, HB3.out.trans (hb4.mono HB3.out.size), .inr ⟨fun h => hp4 h.2.1, rfl⟩⟩
    have HB4 := Lib.hid (HB3.out.trans (hb4.mono HB3.out.size))
    have HL4 := Lib.hid (HL3.out.below hb4 HL3.out.lt)
    have HQ4 := Lib.hid hp4
    clear hb4 hp4 l0 l1 l2 l3 l4 l5 l6 l7 l8 l9
    obtain ⟨l0, l1, l2, l3, l4, l5, l6, l7, l8, l9⟩ := cells10 HL4.out
    go_wp2_with fail
    refine (within_any l.dst 1 7 w4).mono ?_
    rintro e w5 ⟨hb5, ⟨hp5, rfl⟩ | ⟨hp5, rfl⟩⟩
    rotate_left 1
    · unfold Thr
      exact ⟨rfl, HB4.out.trans (hb5.mono HB4.out.size), .inr ⟨fun h => hp5 h.2.2.1, rfl⟩⟩
    have HB5 := Lib.hid (HB4.out.trans (hb5.mono HB4.out.size))
    have HL5 := Lib.hid (HL4.out.below hb5 HL4.out.lt)
    have HQ5 := Lib.hid hp5
    clear hb5 hp5 l0 l1 l2 l3 l4 l5 l6 l7 l8 l9
    obtain ⟨l0, l1, l2, l3, l4, l5, l6, l7, l8, l9⟩ := cells10 HL5.out
    have hent := lk_ent l.kind
    have hC := kind_any l ver A d K w5 hc (he.keep (fun b hb => HB5.out.block b (hK b hb)) (fun _ h => h)) (fun b hb => Nat.lt_of_lt_of_le (hK b hb) HB5.out.size) HK.out
    simp only [lookA, ltA, ltV] at hC
    go_wp2_with fail
    refine hC.mono ?_
    rintro e w6 ⟨hb6, ⟨hp6, rfl⟩ | ⟨hp6, rfl⟩⟩
    rotate_left 1
    · unfold Thr
      exact ⟨rfl, HB5.out.trans (hb6.mono HB5.out.size), .inr ⟨fun h => hp6 h.2.2.2, rfl⟩⟩
    have HB6 := Lib.hid (HB5.out.trans (hb6.mono HB5.out.size))
    have HQ6 := Lib.hid hp6
    clear hb6 hp6 hC
    go_wp2_with fail
    go_end0
    exact ⟨HB6.out, .inl ⟨⟨HK.out, HQ4.out, HQ5.out, HQ6.out⟩, rfl⟩⟩
  · have HK := Lib.hid hk
    clear hk
    go_enter Try.func57, Try.ntmps57
    unfold lookA ltA
    simp only [ltV] at HB0 HL0 l0 l1 l2 l3 l4 l5 l6 l7 l8 l9 ⊢
    go_wp2_with fail
    generalize (w.alloc (.cells #[.int .u8 l.kind, .int .i64 l.src, .int .i64 l.dst, .int .i64 l.term, .int .i64 l.idx, .int .i64 l.was, .bool l.ok, .int .i64 l.com, .int .i64 ver, .slice A l.ents.length d] 100)) = w0 at *
    go_region_held3 (fun w' => w'.cell? ⟨w.heap.size, 0, none⟩ = some (.int .u8 l.kind)) (first | exact l0 | exact L0.out)
      (first | (go_at_call 69; refine (kinds_any _).mono ?_; rintro _ w1 ⟨rfl, hw1⟩; have L0 : Hid (w1.cell? ⟨w.heap.size, 0, none⟩ = some (.int .u8 l.kind)) := Lib.hid (by rw [hw1]; exact (HL0.out.drew.alloc _).cell 0); have hlk : (Instr.lookup 121 (.map (some w0.heap.size)) (.int .u8 l.kind) true).run Try.prog w1 = .ok (.tuple #[.nilFunc, .bool false]) w1 := by { rw [look_kind l.kind w1 w0.heap.size (by rw [hw1]; exact heap_alloc_new w0.drew _), show lkV l.kind = .nilFunc by unfold lkV; rw [if_neg HK.out], decide_eq_false HK.out] }; have HB1 : Hid (Below w0.heap.size w0 w1) := Lib.hid (by rw [hw1]; exact (Below.refl _ w0).drew.alloc (Nat.le_refl _) _); clear hw1))
    have HB2 := Lib.hid (HB0.out.trans (HB1.out.mono HB0.out.size))
    go_wp2_with fail
    have hC := must_any _ _ _ [false] _ (rd_new w1 [.bool false] 4) (by simp)
    simp only [List.length_cons, List.length_nil, Nat.reduceAdd] at hC
    have HPR : Below w1.heap.size w1 _ := ((Below.refl _ w1).alloc (Nat.le_refl _) (.cells #[.bool false] 4))
    refine hC.mono ?_
    rintro e w3 ⟨hb3, ⟨hp3, rfl⟩ | ⟨hp3, rfl⟩⟩
    · exact absurd (hp3 false (by simp)) (by decide)
    · unfold Thr
      exact ⟨rfl, HB2.out.trans ((HPR.trans (hb3.mono HPR.size)).mono HB2.out.size), .inr ⟨fun h => HK.out h.1, rfl⟩⟩
theorem right_any (l : Lt En) (ver : Int) (A : Option Addr) (d : Nat) (K : Nat → Prop) (w : World) (hc : l.ents.length ≤ 9000000000) (he : Ents w K A d l.ents) (hK : ∀ b, K b → b < w.heap.size) :
    Calls Try.prog 37 #[ltA l ver A d] w fun e w' => ∃ b : Bool, e = .returned (.bool b) ∧ (b = true ↔ RightOk l ver) ∧ Below w.heap.size w w' := by
  have hb0 : Below w.heap.size w (w.alloc (.cells (ltV l ver A d).toArray 40)) := (Below.refl _ _).alloc (Nat.le_refl _) _
  have hl0 : Bk (w.alloc (.cells (ltV l ver A d).toArray 40)) w.heap.size 40 (ltV l ver A d) := Bk.new w _ _
  obtain ⟨l0, l1, l2, l3, l4, l5, l6, l7, l8, l9⟩ := cells10 hl0
  have hmf : ∀ (fn : Fn) (first cap : Array Value) (w : World), (Instr.makeFunc fn first cap).run Try.prog w = .ok (.func fn first cap) w := fun _ _ _ _ => rfl
  have hent : ∀ args w, (callFunc 57 args).run Try.prog w = .ok (.enter 57 args) w := enters_of Try.func57 (by kernel_rfl) rfl
  have HENT := Lib.hid hent
  have HB0 := Lib.hid hb0
  have HE := Lib.hid (he.keep (fun b hb => hb0.block b (hK b hb)) (fun _ h => h))
  have hs0 := hb0.size
  have hT : ∀ w1, Below w.heap.size w w1 → ∃ b : Bool, (b = true ↔ RightOk l ver) ∧ Calls Try.prog 56 #[.func (.func 57) #[lookA l ver A d] #[]] w1 fun e w' => e = .returned (.bool b) ∧ Below w1.heap.size w1 w' := by
    intro w1 hb1
    have hbx : Below w1.heap.size w1 (w1.alloc (.cells #[.bool false] 4)) := (Below.refl _ _).alloc (Nat.le_refl _) _
    have hC := check_any l ver A d K (w1.alloc (.cells #[.bool false] 4)) hc (he.keep (fun b hb => (hbx.block b (Nat.lt_of_lt_of_le (hK b hb) hb1.size)).trans (hb1.block b (hK b hb))) (fun _ h => h)) (fun b hb => Nat.lt_of_lt_of_le (Nat.lt_of_lt_of_le (hK b hb) hb1.size) hbx.size)
    by_cases hr : RightOk l ver
    · refine ⟨true, by simp [hr], tried_yes _ #[lookA l ver A d] #[] w1 HENT.out ?_⟩
      refine hC.mono ?_
      rintro e w2 ⟨hb2, ⟨_, rfl⟩ | ⟨hp, _⟩⟩
      · exact ⟨rfl, by rw [World.size_alloc] at hb2; exact hb2⟩
      · exact absurd hr hp
    · refine ⟨false, by simp [hr], tried_no _ #[lookA l ver A d] #[] w1 HENT.out ?_⟩
      refine hC.mono ?_
      rintro e w2 ⟨hb2, ⟨hp, _⟩ | ⟨_, rfl⟩⟩
      · exact absurd hp hr
      · exact ⟨rfl, by rw [World.size_alloc] at hb2; exact hb2⟩
  obtain ⟨b, hb, hTc⟩ := hT _ hb0
  have HBb := Lib.hid hb
  clear hT hent hb0 hl0 hb
  go_enter Try.func37, Try.ntmps37
  unfold ltA
  simp only [lookA, ltA, ltV] at hTc HB0 l0 l1 l2 l3 l4 l5 l6 l7 l8 l9 ⊢
  go_wp2_with fail
  refine hTc.mono ?_
  rintro _ w2 ⟨rfl, hb2⟩
  have HB2 := Lib.hid (HB0.out.trans (hb2.mono HB0.out.size))
  clear hTc hb2
  go_wp2_with fail
  go_ret
  exact ⟨b, rfl, HBb.out, HB2.out⟩
end Go.Proofs.Ythfofnfkopnbhaa

