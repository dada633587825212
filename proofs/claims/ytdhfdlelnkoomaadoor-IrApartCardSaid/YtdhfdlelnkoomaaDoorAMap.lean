/- A map that is the newest block, known whole, its keys small numbers: a new key, a look-up. -/
import Derived.ProofKit
import Derived.WalkKit
namespace Go.Proofs.YtdhfdlelnkoomaaDoor
set_option maxRecDepth 100000
open Go.RowKit

theorem cell4 (w : World) (x y z : Value) (t : TypeId) (o : Obj) :
    ((((w.alloc (.cells #[x] t)).alloc (.cells #[y] t)).alloc (.cells #[z] t)).alloc o).cell? ⟨w.heap.size, 0, none⟩ = some x ∧
    ((((w.alloc (.cells #[x] t)).alloc (.cells #[y] t)).alloc (.cells #[z] t)).alloc o).cell? ⟨w.heap.size + 1, 0, none⟩ = some y ∧
    ((((w.alloc (.cells #[x] t)).alloc (.cells #[y] t)).alloc (.cells #[z] t)).alloc o).cell? ⟨w.heap.size + 1 + 1, 0, none⟩ = some z := by
  refine ⟨?_, ?_, ?_⟩
  · rw [cell_of_row _ w.heap.size 0 #[x] t (0, 0)]
    · rfl
    · rw [Below.heap_alloc _ _ _ (by simp; omega), Below.heap_alloc _ _ _ (by simp; omega), Below.heap_alloc _ _ _ (by simp)]; exact heap_alloc_new _ _
  · rw [cell_of_row _ (w.heap.size + 1) 0 #[y] t (0, 0)]
    · rfl
    · rw [Below.heap_alloc _ _ _ (by simp), Below.heap_alloc _ _ _ (by simp)]
      have := heap_alloc_new (w.alloc (.cells #[x] t)) (.cells #[y] t)
      rwa [World.size_alloc] at this
  · rw [cell_of_row _ (w.heap.size + 1 + 1) 0 #[z] t (0, 0)]
    · rfl
    · rw [Below.heap_alloc _ _ _ (by simp)]
      have := heap_alloc_new ((w.alloc (.cells #[x] t)).alloc (.cells #[y] t)) (.cells #[z] t)
      rwa [World.size_alloc, World.size_alloc] at this
theorem chk {P : Program} {kt : TypeId} (hk : P.underlying kt = some (.int .u8)) (b : Bool) (k : Int) (w : World) : (Instr.checkKey b 10000 kt (.int .u8 k)).run P w = .ok () w := by
  show (Instr.checkKey b (9999 + 1) kt (.int .u8 k)).run P w = _
  unfold Instr.checkKey
  simp [run_underlying hk]
theorem fnd {P : Program} {kt : TypeId} (hk : P.underlying kt = some (.int .u8)) (es : List MapEntry) (k : Int) (w : World) (r : Option (Nat × Value)) (hf : Instr.findNow (.int .u8) (.int .u8 k) es 0 = some r) : (Instr.findKey kt (.int .u8 k) es).run P w = .ok r w := by
  unfold Instr.findKey
  simp [run_underlying hk, hf]
theorem upd_last {P : Program} {t kt et : TypeId} (ht : P.underlying t = some (.map kt et)) (hk : P.underlying kt = some (.int .u8)) (W : World) (n : Nat) (hn : n = W.heap.size) (es : List MapEntry) (c : Nat) (k : Int) (v : Value)
    (hf : Instr.findNow (.int .u8) (.int .u8 k) es 0 = some none) :
    (Instr.mapUpdate t (.map (some n)) (.int .u8 k) v).run P (W.alloc (.map es.toArray c)) = .ok () (W.alloc (.map (es ++ [({ key := .int .u8 k, val := v, born := c } : MapEntry)]).toArray (c + 1))) := by
  subst hn
  have hb : (W.alloc (.map es.toArray c)).heap[W.heap.size]? = some (.map es.toArray c) := heap_alloc_new W _
  have hp : ∀ o, ({ W.alloc (.map es.toArray c) with heap := (W.alloc (.map es.toArray c)).heap.setIfInBounds W.heap.size o } : World) = W.alloc o := by
    intro o
    show ({ W with heap := (W.heap.push (.map es.toArray c)).setIfInBounds W.heap.size o } : World) = { W with heap := W.heap.push o }
    congr 1
    apply Array.ext_getElem?
    intro i
    rw [Array.getElem?_setIfInBounds, Array.getElem?_push, Array.getElem?_push]
    by_cases h : W.heap.size = i
    · subst h
      simp
    · rw [if_neg h, if_neg (by omega), if_neg (by omega)]
  simp [Instr.mapUpdate, run_underlying ht, MapKept.run_getObj_map hb, chk hk, fnd hk _ _ _ _ hf, MapKept.run_setObj_map _ hb, Result.andThen]
  exact hp _
theorem look_hit {P : Program} {t kt et : TypeId} (ht : P.underlying t = some (.map kt et)) (hk : P.underlying kt = some (.int .u8)) (W : World) (n : Nat) (hn : n = W.heap.size) (es : List MapEntry) (c : Nat) (k : Int) (i : Nat) (v : Value)
    (hf : Instr.findNow (.int .u8) (.int .u8 k) es 0 = some (some (i, v))) :
    (Instr.lookup t (.map (some n)) (.int .u8 k) true).run P (W.alloc (.map es.toArray c)) = .ok (.tuple #[v, .bool true]) (W.alloc (.map es.toArray c)) := by
  subst hn
  have hb : (W.alloc (.map es.toArray c)).heap[W.heap.size]? = some (.map es.toArray c) := heap_alloc_new W _
  simp [Instr.lookup, run_underlying ht, MapKept.run_getObj_map hb, chk hk, fnd hk _ _ _ _ hf]
theorem look_miss {P : Program} {t kt et : TypeId} (ht : P.underlying t = some (.map kt et)) (hk : P.underlying kt = some (.int .u8)) (W : World) (n : Nat) (hn : n = W.heap.size) (es : List MapEntry) (c : Nat) (k : Int) (z : Value) (hz : ∀ w, (zeroValue et).run P w = .ok z w)
    (hf : Instr.findNow (.int .u8) (.int .u8 k) es 0 = some none) :
    (Instr.lookup t (.map (some n)) (.int .u8 k) true).run P (W.alloc (.map es.toArray c)) = .ok (.tuple #[z, .bool false]) (W.alloc (.map es.toArray c)) := by
  subst hn
  have hb : (W.alloc (.map es.toArray c)).heap[W.heap.size]? = some (.map es.toArray c) := heap_alloc_new W _
  simp [Instr.lookup, run_underlying ht, MapKept.run_getObj_map hb, chk hk, fnd hk _ _ _ _ hf, hz]
end Go.Proofs.YtdhfdlelnkoomaaDoor
