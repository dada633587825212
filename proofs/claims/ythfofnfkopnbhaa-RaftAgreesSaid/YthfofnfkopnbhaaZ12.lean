/- A map that is the newest block, known whole, its keys small numbers: a new key, a look-up. raft, the walk: does. -/
import Derived.ProofKit
import Derived.WalkKit
import Derived.Test.YthfofnfkopnbhaaW18
namespace Go.Proofs.Ythfofnfkopnbhaa
set_option maxRecDepth 100000
open Go.RowKit

theorem cell4 (w : World) (x y z : Value) (t : TypeId) (o : Obj) :
    ((((w.alloc (.cells #[x] t)).alloc (.cells #[y] t)).alloc (.cells #[z] t)).alloc o).cell? ⟨w.heap.size, 0, none⟩ = some x ∧
    ((((w.alloc (.cells #[x] t)).alloc (.cells #[y] t)).alloc (.cells #[z] t)).alloc o).cell? ⟨w.heap.size + 1, 0, none⟩ = some y ∧
    ((((w.alloc (.cells #[x] t)).alloc (.cells #[y] t)).alloc (.cells #[z] t)).alloc o).cell? ⟨w.heap.size + 1 + 1, 0, none⟩ = some z := by
  refine ⟨?_, ?_, ?_⟩
  · rw [cell_of_row _ w.heap.size 0 #[x] t (0, 0)]
    · rfl
    · rw [Below.heap_alloc _ _ _ (by simp; omega), Below.heap_alloc _ _ _ (by simp; omega), Below.heap_alloc _ _ _ (by simp)]; exact heap_alloc_new _ _
  · rw [cell_of_row _ (w.heap.size + 1) 0 #[y] t (0, 0)]
    · rfl
    · rw [Below.heap_alloc _ _ _ (by simp), Below.heap_alloc _ _ _ (by simp)]
      have := heap_alloc_new (w.alloc (.cells #[x] t)) (.cells #[y] t)
      rwa [World.size_alloc] at this
  · rw [cell_of_row _ (w.heap.size + 1 + 1) 0 #[z] t (0, 0)]
    · rfl
    · rw [Below.heap_alloc _ _ _ (by simp)]
      have := heap_alloc_new ((w.alloc (.cells #[x] t)).alloc (.cells #[y] t)) (.cells #[z] t)
      rwa [World.size_alloc, World.size_alloc] at this
theorem chk {P : Program} {kt : TypeId} (hk : P.underlying kt = some (.int .u8)) (b : Bool) (k : Int) (w : World) : (Instr.checkKey b 10000 kt (.int .u8 k)).run P w = .ok () w := by
  show (Instr.checkKey b (9999 + 1) kt (.int .u8 k)).run P w = _
  unfold Instr.checkKey
  simp [run_underlying hk]
theorem fnd {P : Program} {kt : TypeId} (hk : P.underlying kt = some (.int .u8)) (es : List MapEntry) (k : Int) (w : World) (r : Option (Nat × Value)) (hf : Instr.findNow (.int .u8) (.int .u8 k) es 0 = some r) : (Instr.findKey kt (.int .u8 k) es).run P w = .ok r w := by
  unfold Instr.findKey
  simp [run_underlying hk, hf]
theorem upd_last {P : Program} {t kt et : TypeId} (ht : P.underlying t = some (.map kt et)) (hk : P.underlying kt = some (.int .u8)) (W : World) (n : Nat) (hn : n = W.heap.size) (es : List MapEntry) (c : Nat) (k : Int) (v : Value)
    (hf : Instr.findNow (.int .u8) (.int .u8 k) es 0 = some none) :
    (Instr.mapUpdate t (.map (some n)) (.int .u8 k) v).run P (W.alloc (.map es.toArray c)) = .ok () (W.alloc (.map (es ++ [({ key := .int .u8 k, val := v, born := c } : MapEntry)]).toArray (c + 1))) := by
  subst hn
  have hb : (W.alloc (.map es.toArray c)).heap[W.heap.size]? = some (.map es.toArray c) := heap_alloc_new W _
  have hp : ∀ o, ({ W.alloc (.map es.toArray c) with heap := (W.alloc (.map es.toArray c)).heap.setIfInBounds W.heap.size o } : World) = W.alloc o := by
    intro o
    show ({ W with heap := (W.heap.push (.map es.toArray c)).setIfInBounds W.heap.size o } : World) = { W with heap := W.heap.push o }
    congr 1
    apply Array.ext_getElem?
    intro i
    rw [Array.getElem?_setIfInBounds, Array.getElem?_push, Array.getElem?_push]
    by_cases h : W.heap.size = i
    · subst h
      simp
    · rw [if_neg h, if_neg (by omega), if_neg (by omega)]
  simp [Instr.mapUpdate, run_underlying ht, MapKept.run_getObj_map hb, chk hk, fnd hk _ _ _ _ hf, MapKept.run_setObj_map _ hb, Result.andThen]
  exact hp _
theorem look_hit {P : Program} {t kt et : TypeId} (ht : P.underlying t = some (.map kt et)) (hk : P.underlying kt = some (.int .u8)) (W : World) (n : Nat) (hn : n = W.heap.size) (es : List MapEntry) (c : Nat) (k : Int) (i : Nat) (v : Value)
    (hf : Instr.findNow (.int .u8) (.int .u8 k) es 0 = some (some (i, v))) :
    (Instr.lookup t (.map (some n)) (.int .u8 k) true).run P (W.alloc (.map es.toArray c)) = .ok (.tuple #[v, .bool true]) (W.alloc (.map es.toArray c)) := by
  subst hn
  have hb : (W.alloc (.map es.toArray c)).heap[W.heap.size]? = some (.map es.toArray c) := heap_alloc_new W _
  simp [Instr.lookup, run_underlying ht, MapKept.run_getObj_map hb, chk hk, fnd hk _ _ _ _ hf]
theorem look_miss {P : Program} {t kt et : TypeId} (ht : P.underlying t = some (.map kt et)) (hk : P.underlying kt = some (.int .u8)) (W : World) (n : Nat) (hn : n = W.heap.size) (es : List MapEntry) (c : Nat) (k : Int) (z : Value) (hz : ∀ w, (zeroValue et).run P w = .ok z w)
    (hf : Instr.findNow (.int .u8) (.int .u8 k) es 0 = some none) :
    (Instr.lookup t (.map (some n)) (.int .u8 k) true).run P (W.alloc (.map es.toArray c)) = .ok (.tuple #[z, .bool false]) (W.alloc (.map es.toArray c)) := by
  subst hn
  have hb : (W.alloc (.map es.toArray c)).heap[W.heap.size]? = some (.map es.toArray c) := heap_alloc_new W _
  simp [Instr.lookup, run_underlying ht, MapKept.run_getObj_map hb, chk hk, fnd hk _ _ _ _ hf, hz]
end Go.Proofs.Ythfofnfkopnbhaa
namespace Go.Proofs.Ythfofnfkopnbhaa
open Go.RowKit Go.Maps Go.ChangeMaps
set_option linter.unusedVariables false
set_option linter.unusedSimpArgs false
set_option linter.unusedSectionVars false
set_option maxRecDepth 100000

theorem look_hit_at {P : Program} {t kt et : TypeId} (ht : P.underlying t = some (.map kt et)) (hk : P.underlying kt = some (.int .u8)) (W : World) (n : Nat) (es : List MapEntry) (c : Nat) (hb : W.heap[n]? = some (.map es.toArray c)) (k : Int) (i : Nat) (v : Value)
    (hf : Instr.findNow (.int .u8) (.int .u8 k) es 0 = some (some (i, v))) :
    (Instr.lookup t (.map (some n)) (.int .u8 k) true).run P W = .ok (.tuple #[v, .bool true]) W := by
  simp [Instr.lookup, run_underlying ht, MapKept.run_getObj_map hb, chk hk, fnd hk _ _ _ _ hf]
theorem look_miss_at {P : Program} {t kt et : TypeId} (ht : P.underlying t = some (.map kt et)) (hk : P.underlying kt = some (.int .u8)) (W : World) (n : Nat) (es : List MapEntry) (c : Nat) (hb : W.heap[n]? = some (.map es.toArray c)) (k : Int) (z : Value) (hz : ∀ w, (zeroValue et).run P w = .ok z w)
    (hf : Instr.findNow (.int .u8) (.int .u8 k) es 0 = some none) :
    (Instr.lookup t (.map (some n)) (.int .u8 k) true).run P W = .ok (.tuple #[z, .bool false]) W := by
  simp [Instr.lookup, run_underlying ht, MapKept.run_getObj_map hb, chk hk, fnd hk _ _ _ _ hf, hz]
def fnE (k : Int) (f b : Nat) : MapEntry := { key := .int .u8 k, val := .func (.func f) #[] #[], born := b }
def doEs : List MapEntry := [fnE 1 52 0, fnE 2 53 1, fnE 3 54 2, fnE 4 55 3]
/-- What is done at a letter of a kind. -/
def doV (k : Int) : Value := if k = 1 then .func (.func 52) #[] #[] else if k = 2 then .func (.func 53) #[] #[] else if k = 3 then .func (.func 54) #[] #[] else if k = 4 then .func (.func 55) #[] #[] else .nilFunc
theorem does_any (k : Int) (w : World) : Calls Try.prog 36 #[.int .u8 k] w fun e w' => e = .returned (.tuple #[doV k, .bool (decide (1 ≤ k ∧ k ≤ 4))]) ∧ Below w.heap.size w w' := by
  have hmm := @run_makeMap Try.prog
  have hl : (Instr.lookup 97 (.map (some w.heap.size)) (.int .u8 k) true).run Try.prog (w.alloc (.map doEs.toArray 4)) = .ok (.tuple #[doV k, .bool (decide (1 ≤ k ∧ k ≤ 4))]) (w.alloc (.map doEs.toArray 4)) := by
    have hb : (w.alloc (.map doEs.toArray 4)).heap[w.heap.size]? = some (.map doEs.toArray 4) := heap_alloc_new w _
    by_cases h1 : k = 1
    · subst h1; exact look_hit_at Try.underlying97 Try.underlying38 _ _ doEs 4 hb 1 0 _ rfl
    by_cases h2 : k = 2
    · subst h2; exact look_hit_at Try.underlying97 Try.underlying38 _ _ doEs 4 hb 2 1 _ rfl
    by_cases h3 : k = 3
    · subst h3; exact look_hit_at Try.underlying97 Try.underlying38 _ _ doEs 4 hb 3 2 _ rfl
    by_cases h4 : k = 4
    · subst h4; exact look_hit_at Try.underlying97 Try.underlying38 _ _ doEs 4 hb 4 3 _ rfl
    rw [look_miss_at Try.underlying97 Try.underlying38 _ _ doEs 4 hb k .nilFunc (fun w => by kernel_rfl) (by simp [doEs, fnE, Instr.findNow, Instr.sameNow, beq_false_of_ne h1, beq_false_of_ne h2, beq_false_of_ne h3, beq_false_of_ne h4])]
    rw [show doV k = .nilFunc by unfold doV; rw [if_neg h1, if_neg h2, if_neg h3, if_neg h4], show decide (1 ≤ k ∧ k ≤ 4) = false from decide_eq_false (by omega)]
  simp only [doEs, fnE] at hl
  go_enter Try.func36, Try.ntmps36
  go_wp2_with fail
  iterate 4
    rw [upd_last Try.underlying97 Try.underlying38]
    rotate_left
    · simp
    · rfl
    simp only [List.nil_append, List.cons_append, Nat.reduceAdd]
    go_wp2_with fail
  go_ret2
  exact ⟨by simp, (Below.refl _ _).alloc (Nat.le_refl _) _⟩
end Go.Proofs.Ythfofnfkopnbhaa
