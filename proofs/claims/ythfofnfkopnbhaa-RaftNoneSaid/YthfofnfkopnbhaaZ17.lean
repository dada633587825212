/- raft: light. raft: same, of what tells nothing. -/
import Derived.Test.YthfofnfkopnbhaaW27
namespace Go.Proofs.Ythfofnfkopnbhaa
open Go.RowKit Go.Maps Go.ChangeMaps
set_option linter.unusedVariables false
set_option linter.unusedSimpArgs false
set_option linter.unusedSectionVars false
set_option maxRecDepth 100000

theorem light_any (A : Option Addr) (c : Nat) (K : Nat → Prop) (es : List En) (w : World) (h : Ents w K A c es) :
    Calls Try.prog 9 #[.slice A es.length c] w fun e w' => (e = .returned (.bool false) ∨ e = .returned (.bool true)) ∧ w = w' := by
  have hl : es.length ≤ maxLen := Nat.le_trans h.2.1 h.2.2.1
  have hm : maxLen ≤ 9223372036854775807 := by decide
  go_enter Try.func9, Try.ntmps9
  go_wp2_with fail
  go_loopw [3, 4] (fun s i wr => wr = w ∧ ∃ (k : Nat) (t : Int), k ≤ es.length ∧ i = .int .i64 k ∧ s = .int .i64 t ∧ 0 ≤ t ∧ t ≤ 6001) (fun _ i _ => es.length - (intOf i).toNat)
  case atStart => exact ⟨rfl, 0, 0, Nat.zero_le _, rfl, rfl, by omega, by omega⟩
  case round =>
    obtain ⟨rfl, k, t, hk, rfl, rfl, ht0, ht1⟩ := hrel
    by_cases hlt : k < es.length
    · have d1 : decide ((k : Int) < (es.length : Int)) = true := decide_eq_true (by omega)
      by_cases ht : t < 3000
      · have d2 : decide (t < 3000) = true := decide_eq_true ht
        obtain ⟨a, e, B, d, rfl, _, _, hc0, _, h5, h6⟩ := h.at_ hlt
        obtain ⟨a0, a1, a2, a3, a4, a5⟩ := en6 hc0
        clear hc0
        have hmn : (min (e.data.length : Int) 3000) ≤ 3000 := Int.min_le_right _ _
        have hmn0 : 0 ≤ (min (e.data.length : Int) 3000) := by omega
        go_wp2_with fail
        go_roundw
        case rel => exact ⟨trivial, k + 1, _, by omega, by go_num, rfl, by omega, by omega⟩
        case measure => simp [intOf]; omega
      · have d2 : decide (t < 3000) = false := decide_eq_false ht
        go_wp2_with fail
        go_ret
        exact ⟨.inl rfl, rfl⟩
    · have d1 : decide ((k : Int) < (es.length : Int)) = false := decide_eq_false (by omega)
      go_wp2_with fail
      go_ret
      rcases Bool.eq_false_or_eq_true (decide (t < 3000)) with e | e
      · exact ⟨.inr (by rw [e]; rfl), rfl⟩
      · exact ⟨.inl (by rw [e]; rfl), rfl⟩
end Go.Proofs.Ythfofnfkopnbhaa
namespace Go.Proofs.Ythfofnfkopnbhaa
open Go.RowKit Go.Maps Go.ChangeMaps
set_option linter.unusedVariables false
set_option linter.unusedSimpArgs false
set_option linter.unusedSectionVars false
set_option maxRecDepth 100000

theorem NoP.below {w w' : World} {v : Value} (h : NoP w v) {B : Nat} (hb : Below B w w') (hB : B = w.heap.size) : NoP w' v := by
  subst hB
  rcases h with h | ⟨g, h1, h2⟩
  · exact .inl h
  · exact .inr ⟨g, h1, (World.cell?_of_block (hb.block g (World.block_lt_of_cell? w _ h2))).trans h2⟩
theorem letters_none (w : World) : Calls Try.prog 30 #[.slice none 0 0, .slice none 0 0] w fun e w' => e = .returned (.bool true) ∧ w = w' := by
  go_enter Try.func30, Try.ntmps30
  go_wp2_with fail
  go_loopw [5] (fun i wr => wr = w ∧ i = .int .i64 0) (fun _ _ => 0)
  case atStart => exact ⟨rfl, rfl⟩
  case round =>
    obtain ⟨rfl, rfl⟩ := hrel
    go_wp2_with fail
    go_ret
    exact ⟨rfl, rfl⟩
theorem same_none (w : World) : Calls Try.prog 12 #[out0, out0] w fun e w' => e = .returned (.bool true) ∧ Below w.heap.size w w' := by
  go_enter Try.func12, Try.ntmps12
  unfold out0
  go_wp2_with fail
  refine (letters_none _).mono ?_
  rintro _ _ ⟨rfl, rfl⟩
  go_wp2_with fail
  go_ret
  exact ⟨rfl, ((Below.refl _ _).alloc (Nat.le_refl _) _).alloc (by simp) _⟩
theorem tick_no (w : World) (v : Value) (x : Int) (h : NoP w v) : Calls Try.prog 13 #[v, .int .i64 x] w fun e w' => e = .returned out0 ∧ Below w.heap.size w w' := by
  have hmf : ∀ (fn : Fn) (first cap : Array Value) (w : World), (Instr.makeFunc fn first cap).run Try.prog w = .ok (.func fn first cap) w := fun _ _ _ _ => rfl
  obtain ⟨a, rfl⟩ : ∃ a, v = .pointer a := by
    rcases h with rfl | ⟨g, rfl, _⟩
    · exact ⟨_, rfl⟩
    · exact ⟨_, rfl⟩
  have hb : Below w.heap.size w (((w.alloc (.cells #[.pointer a] 46)).alloc (.cells #[.int .i64 x] 3)).alloc (.cells #[.int .i64 0, .int .i64 0, .int .i64 0, .int .i64 0, .slice none 0 0] 48)) := (((Below.refl _ _).alloc (Nat.le_refl _) _).alloc (by simp) _).alloc (by simp; omega) _
  have b3 : Bk (((w.alloc (.cells #[.pointer a] 46)).alloc (.cells #[.int .i64 x] 3)).alloc (.cells #[.int .i64 0, .int .i64 0, .int .i64 0, .int .i64 0, .slice none 0 0] 48)) (w.heap.size + 1 + 1) 48 [.int .i64 0, .int .i64 0, .int .i64 0, .int .i64 0, .slice none 0 0] := by
    have := Bk.new ((w.alloc (.cells #[.pointer a] 46)).alloc (.cells #[.int .i64 x] 3)) 48 [.int .i64 0, .int .i64 0, .int .i64 0, .int .i64 0, .slice none 0 0]
    rw [World.size_alloc, World.size_alloc] at this
    exact this
  have hn := h.below hb rfl
  have HB := Lib.hid hb
  have H3 := Lib.hid b3
  clear h hb b3
  go_enter Try.func13, Try.ntmps13
  go_wp2_with fail
  generalize ((w.alloc _).alloc _).alloc _ = w3 at *
  refine (call_no w3 _ _ hn).mono ?_
  rintro _ w4 ⟨rfl, hb4⟩
  have b4 := H3.out.below hb4 H3.out.lt
  have HB4 := Lib.hid (HB.out.trans (hb4.mono HB.out.size))
  obtain ⟨e0, e1, e2, e3, e4⟩ := cells5 b4
  have ef := b4.frozen
  have HK4 := Lib.hid b4
  clear b4 hn hb4
  unfold out0
  go_wp2_with fail
  obtain ⟨q0, q1, q2, q3, q4⟩ := cells5 (bk5 HK4.out (.int .i64 0) (.int .i64 0) (.int .i64 0) (.int .i64 0) (.slice none 0 0))
  have hA5 := ag5 w4 (w.heap.size + 1 + 1) (.int .i64 0) (.int .i64 0) (.int .i64 0) (.int .i64 0) (.slice none 0 0)
  generalize (((((w4.setCell ⟨w.heap.size + 1 + 1, 0, none⟩ (.int .i64 0)).setCell ⟨w.heap.size + 1 + 1, 1, none⟩ (.int .i64 0)).setCell ⟨w.heap.size + 1 + 1, 2, none⟩ (.int .i64 0)).setCell ⟨w.heap.size + 1 + 1, 3, none⟩ (.int .i64 0)).setCell ⟨w.heap.size + 1 + 1, 4, none⟩ (.slice none 0 0)) = w5 at *
  exact bodyPost_ret (v := out0) (by simp [results, Try.results13, go_sem, out0, q0, q1, q2, q3, q4]) rfl ⟨rfl, HB4.out.trans ⟨hA5.os, hA5.tape, hA5.output, hA5.size, fun b hb => hA5.block b (Nat.lt_of_lt_of_le hb HB4.out.size) (by omega)⟩⟩
theorem letter_no_any (w : World) (v : Value) (l : Lt En) (ver : Int) (A : Option Addr) (d : Nat) (h : NoP w v) : Calls Try.prog 14 #[v, ltA l ver A d] w fun e w' => e = .returned out0 ∧ Below w.heap.size w w' := by
  have hmf : ∀ (fn : Fn) (first cap : Array Value) (w : World), (Instr.makeFunc fn first cap).run Try.prog w = .ok (.func fn first cap) w := fun _ _ _ _ => rfl
  obtain ⟨a, rfl⟩ : ∃ a, v = .pointer a := by
    rcases h with rfl | ⟨g, rfl, _⟩
    · exact ⟨_, rfl⟩
    · exact ⟨_, rfl⟩
  have hb : Below w.heap.size w (((w.alloc (.cells #[.pointer a] 46)).alloc (.cells (ltV l ver A d).toArray 40)).alloc (.cells #[.int .i64 0, .int .i64 0, .int .i64 0, .int .i64 0, .slice none 0 0] 48)) := (((Below.refl _ _).alloc (Nat.le_refl _) _).alloc (by simp) _).alloc (by simp; omega) _
  have b3 : Bk (((w.alloc (.cells #[.pointer a] 46)).alloc (.cells (ltV l ver A d).toArray 40)).alloc (.cells #[.int .i64 0, .int .i64 0, .int .i64 0, .int .i64 0, .slice none 0 0] 48)) (w.heap.size + 1 + 1) 48 [.int .i64 0, .int .i64 0, .int .i64 0, .int .i64 0, .slice none 0 0] := by
    have := Bk.new ((w.alloc (.cells #[.pointer a] 46)).alloc (.cells (ltV l ver A d).toArray 40)) 48 [.int .i64 0, .int .i64 0, .int .i64 0, .int .i64 0, .slice none 0 0]
    rw [World.size_alloc, World.size_alloc] at this
    exact this
  simp only [ltV, ltA] at hb b3 ⊢
  have hn := h.below hb rfl
  have HB := Lib.hid hb
  have H3 := Lib.hid b3
  clear h hb b3
  go_enter Try.func14, Try.ntmps14
  go_wp2_with fail
  generalize ((w.alloc _).alloc _).alloc _ = w3 at *
  refine (call_no w3 _ _ hn).mono ?_
  rintro _ w4 ⟨rfl, hb4⟩
  have b4 := H3.out.below hb4 H3.out.lt
  have HB4 := Lib.hid (HB.out.trans (hb4.mono HB.out.size))
  obtain ⟨e0, e1, e2, e3, e4⟩ := cells5 b4
  have ef := b4.frozen
  have HK4 := Lib.hid b4
  clear b4 hn hb4
  unfold out0
  go_wp2_with fail
  obtain ⟨q0, q1, q2, q3, q4⟩ := cells5 (bk5 HK4.out (.int .i64 0) (.int .i64 0) (.int .i64 0) (.int .i64 0) (.slice none 0 0))
  have hA5 := ag5 w4 (w.heap.size + 1 + 1) (.int .i64 0) (.int .i64 0) (.int .i64 0) (.int .i64 0) (.slice none 0 0)
  generalize (((((w4.setCell ⟨w.heap.size + 1 + 1, 0, none⟩ (.int .i64 0)).setCell ⟨w.heap.size + 1 + 1, 1, none⟩ (.int .i64 0)).setCell ⟨w.heap.size + 1 + 1, 2, none⟩ (.int .i64 0)).setCell ⟨w.heap.size + 1 + 1, 3, none⟩ (.int .i64 0)).setCell ⟨w.heap.size + 1 + 1, 4, none⟩ (.slice none 0 0)) = w5 at *
  exact bodyPost_ret (v := out0) (by simp [results, Try.results14, go_sem, out0, q0, q1, q2, q3, q4]) rfl ⟨rfl, HB4.out.trans ⟨hA5.os, hA5.tape, hA5.output, hA5.size, fun b hb => hA5.block b (Nat.lt_of_lt_of_le hb HB4.out.size) (by omega)⟩⟩
end Go.Proofs.Ythfofnfkopnbhaa
