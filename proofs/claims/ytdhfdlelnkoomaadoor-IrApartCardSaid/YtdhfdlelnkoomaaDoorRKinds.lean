/- The kinds of instructions: the map of them, and a look-up in it: over this seat's program. -/
import Derived.Test.YtdhfdlelnkoomaaDoorRPl5
import Derived.Test.YtdhfdlelnkoomaaDoorAMap
import Derived.Shelf.Abstract
namespace Go.Proofs.YtdhfdlelnkoomaaDoor
open Go.RowKit Go.Shelf
set_option linter.unusedVariables false
set_option maxRecDepth 100000

theorem look_hit_at {P : Program} {t kt et : TypeId} (ht : P.underlying t = some (.map kt et)) (hk : P.underlying kt = some (.int .u8)) (W : World) (n : Nat) (es : List MapEntry) (c : Nat) (hb : W.heap[n]? = some (.map es.toArray c)) (k : Int) (i : Nat) (v : Value)
    (hf : Instr.findNow (.int .u8) (.int .u8 k) es 0 = some (some (i, v))) :
    (Instr.lookup t (.map (some n)) (.int .u8 k) true).run P W = .ok (.tuple #[v, .bool true]) W := by
  simp [Instr.lookup, run_underlying ht, MapKept.run_getObj_map hb, chk hk, fnd hk _ _ _ _ hf]
theorem look_miss_at {P : Program} {t kt et : TypeId} (ht : P.underlying t = some (.map kt et)) (hk : P.underlying kt = some (.int .u8)) (W : World) (n : Nat) (es : List MapEntry) (c : Nat) (hb : W.heap[n]? = some (.map es.toArray c)) (k : Int) (z : Value) (hz : ∀ w, (zeroValue et).run P w = .ok z w)
    (hf : Instr.findNow (.int .u8) (.int .u8 k) es 0 = some none) :
    (Instr.lookup t (.map (some n)) (.int .u8 k) true).run P W = .ok (.tuple #[z, .bool false]) W := by
  simp [Instr.lookup, run_underlying ht, MapKept.run_getObj_map hb, chk hk, fnd hk _ _ _ _ hf, hz]
def fnE (k : Int) (f b : Nat) : MapEntry := { key := .int .u8 k, val := .func (.func f) #[] #[], born := b }
def kindEs : List MapEntry := [fnE 1 31 0, fnE 2 32 1, fnE 3 33 2, fnE 4 34 3, fnE 5 34 4, fnE 6 35 5, fnE 7 36 6, fnE 8 37 7, fnE 9 38 8]
theorem kinds_any (w : World) : Calls Tryd.prog 20 #[] w fun e w' => e = .returned (.map (some w.heap.size)) ∧ w' = w.alloc (.map kindEs.toArray 9) := by
  have hmm := @run_makeMap Tryd.prog
  go_enter Tryd.func20, Tryd.ntmps20
  go_wp2_with fail
  iterate 9
    rw [upd_last Tryd.underlying41 Tryd.underlying31]
    rotate_left
    · simp
    · rfl
    simp only [List.nil_append, List.cons_append, Nat.reduceAdd]
    go_wp2_with fail
  go_ret
  exact ⟨rfl, rfl⟩
theorem one_set (f : Ins) (i n : Int) (h : f.op = 1) : oneP f i n = (insE { bareI f with d := f.d, n := f.n } f && [f.d].all regP) := by
  simp [oneP, h, insE, bareI, eq_comm]
theorem one_move (f : Ins) (i n : Int) (h : f.op = 2) : oneP f i n = (insE { bareI f with d := f.d, a := f.a } f && [f.d, f.a].all regP) := by
  simp [oneP, h, insE, bareI, eq_comm]
theorem one_alu (f : Ins) (i n : Int) (h : f.op = 3) : oneP f i n = (insE { bareI f with what := f.what, nar := f.nar, d := f.d, a := f.a, b := f.b } f && (decide (1 ≤ f.what ∧ f.what ≤ 13) && ([f.d, f.a, f.b].all regP && (f.what != 13 || f.b == 0)))) := by
  simp [oneP, h, insE, bareI, eq_comm]
theorem one_load (f : Ins) (i n : Int) (h : f.op = 4 ∨ f.op = 5) : oneP f i n = (insE { bareI f with d := f.d, a := f.a, n := f.n, size := f.size } f && ([f.d, f.a].all regP && sizedP f.size)) := by
  rcases h with h | h <;> simp [oneP, h, insE, bareI, eq_comm]
theorem one_write (f : Ins) (i n : Int) (h : f.op = 6) : oneP f i n = (insE { bareI f with a := f.a, b := f.b, n := f.n, size := f.size } f && ([f.a, f.b].all regP && sizedP f.size)) := by
  simp [oneP, h, insE, bareI, eq_comm]
theorem one_jump (f : Ins) (i n : Int) (h : f.op = 7) : oneP f i n = (insE { bareI f with to := f.to } f && decide (i < f.to ∧ f.to < n)) := by
  simp [oneP, h, insE, bareI, eq_comm]
theorem one_ask (f : Ins) (i n : Int) (h : f.op = 8) : oneP f i n = (insE { bareI f with what := f.what, nar := f.nar, a := f.a, b := f.b, to := f.to } f && (decide (17 ≤ f.what ∧ f.what ≤ 27) && ([f.a, f.b].all regP && decide (i < f.to ∧ f.to < n)))) := by
  simp [oneP, h, insE, bareI, eq_comm]
theorem one_end (f : Ins) (i n : Int) (h : f.op = 9) : oneP f i n = (insE { bareI f with a := f.a } f && [f.a].all regP) := by
  simp [oneP, h, insE, bareI, eq_comm]
theorem one_none (f : Ins) (i n : Int) (h1 : f.op ≠ 1) (h2 : f.op ≠ 2) (h3 : f.op ≠ 3) (h4 : f.op ≠ 4) (h5 : f.op ≠ 5) (h6 : f.op ≠ 6) (h7 : f.op ≠ 7) (h8 : f.op ≠ 8) (h9 : f.op ≠ 9) : oneP f i n = false := by
  simp [oneP, h1, h2, h3, h4, h5, h6, h7, h8, h9]
/-- What the map of the kinds tells of one. -/
def KindIs (f : Ins) : Prop :=
  (∃ j g, Instr.findNow (.int .u8) (.int .u8 f.op) kindEs 0 = some (some (j, .func (.func g) #[] #[])) ∧ (∀ args w, (callFunc g args).run Tryd.prog w = .ok (.enter g args) w) ∧
    ∀ i n w, Calls Tryd.prog g #[plA f i n] w fun e w' => e = .returned (.bool (oneP f i n)) ∧ Below w.heap.size w w') ∨
  (Instr.findNow (.int .u8) (.int .u8 f.op) kindEs 0 = some none ∧ ∀ i n, oneP f i n = false)
theorem kind_is (f : Ins) : KindIs f := by
  by_cases h1 : f.op = 1
  · exact .inl ⟨0, 31, by rw [h1]; rfl, enters_of Tryd.func31 (by kernel_rfl) rfl, fun i n w => set_pl f i n _ (Lib.hid (one_set f i n h1)) w⟩
  by_cases h2 : f.op = 2
  · exact .inl ⟨1, 32, by rw [h2]; rfl, enters_of Tryd.func32 (by kernel_rfl) rfl, fun i n w => move_pl f i n _ (Lib.hid (one_move f i n h2)) w⟩
  by_cases h3 : f.op = 3
  · exact .inl ⟨2, 33, by rw [h3]; rfl, enters_of Tryd.func33 (by kernel_rfl) rfl, fun i n w => alu_pl f i n _ (Lib.hid (one_alu f i n h3)) w⟩
  by_cases h4 : f.op = 4
  · exact .inl ⟨3, 34, by rw [h4]; rfl, enters_of Tryd.func34 (by kernel_rfl) rfl, fun i n w => load_pl f i n _ (Lib.hid (one_load f i n (.inl h4))) w⟩
  by_cases h5 : f.op = 5
  · exact .inl ⟨4, 34, by rw [h5]; rfl, enters_of Tryd.func34 (by kernel_rfl) rfl, fun i n w => load_pl f i n _ (Lib.hid (one_load f i n (.inr h5))) w⟩
  by_cases h6 : f.op = 6
  · exact .inl ⟨5, 35, by rw [h6]; rfl, enters_of Tryd.func35 (by kernel_rfl) rfl, fun i n w => write_pl f i n _ (Lib.hid (one_write f i n h6)) w⟩
  by_cases h7 : f.op = 7
  · exact .inl ⟨6, 36, by rw [h7]; rfl, enters_of Tryd.func36 (by kernel_rfl) rfl, fun i n w => jump_pl f i n _ (Lib.hid (one_jump f i n h7)) w⟩
  by_cases h8 : f.op = 8
  · exact .inl ⟨7, 37, by rw [h8]; rfl, enters_of Tryd.func37 (by kernel_rfl) rfl, fun i n w => ask_pl f i n _ (Lib.hid (one_ask f i n h8)) w⟩
  by_cases h9 : f.op = 9
  · exact .inl ⟨8, 38, by rw [h9]; rfl, enters_of Tryd.func38 (by kernel_rfl) rfl, fun i n w => end_pl f i n _ (Lib.hid (one_end f i n h9)) w⟩
  refine .inr ⟨?_, fun i n => one_none f i n h1 h2 h3 h4 h5 h6 h7 h8 h9⟩
  have e1 : (f.op == 1) = false := by simpa using h1
  have e2 : (f.op == 2) = false := by simpa using h2
  have e3 : (f.op == 3) = false := by simpa using h3
  have e4 : (f.op == 4) = false := by simpa using h4
  have e5 : (f.op == 5) = false := by simpa using h5
  have e6 : (f.op == 6) = false := by simpa using h6
  have e7 : (f.op == 7) = false := by simpa using h7
  have e8 : (f.op == 8) = false := by simpa using h8
  have e9 : (f.op == 9) = false := by simpa using h9
  simp [kindEs, fnE, Instr.findNow, Instr.sameNow, e1, e2, e3, e4, e5, e6, e7, e8, e9]
end Go.Proofs.YtdhfdlelnkoomaaDoor
