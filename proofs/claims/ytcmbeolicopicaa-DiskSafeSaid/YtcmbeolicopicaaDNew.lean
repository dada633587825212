/- disk: New, List, Used. -/
import Derived.Test.YtcmbeolicopicaaDDb
import Derived.WalkLawsBesides
import Derived.Carry
namespace Go.Proofs.Ytcmbeolicopicaa
open Go.RowKit Go.Maps Go.ChangeMaps
set_option linter.unusedVariables false
set_option linter.unusedSimpArgs false
set_option maxRecDepth 100000

theorem db_new (room : Int) (w : World) : (∃ B, (∀ j, B j → w.heap.size ≤ j) ∧ DB B (w.heap.size + 1) room [] 0 ((w.alloc (.map #[] 0)).alloc (.cells #[.map (some w.heap.size), .int .i64 room] 49))) ∧ Below w.heap.size w ((w.alloc (.map #[] 0)).alloc (.cells #[.map (some w.heap.size), .int .i64 room] 49)) := by
  have hm : ((w.alloc (.map #[] 0)).alloc (.cells #[.map (some w.heap.size), .int .i64 room] 49)).heap[w.heap.size]? = some (.map #[] 0) := (heap_alloc_old _ _ (by simp)).trans (heap_alloc_new w _)
  have hd := Bk.new (w.alloc (.map #[] 0)) 49 [.map (some w.heap.size), .int .i64 room]
  rw [World.size_alloc] at hd
  refine ⟨⟨fun j => j = w.heap.size ∨ j = w.heap.size + 1, fun j q => by omega, ⟨w.heap.size, room, []⟩, ⟨hd, ⟨[], 0, hm, EsOk.nil _ _, rfl⟩, fun f hf => (by cases hf), List.Pairwise.nil⟩, rfl, List.Perm.refl _, List.Pairwise.nil, fun j q => ?_, .inr rfl, fun j q => by simp; omega, Nat.le_refl _, by decide, fun f hf => (by cases hf)⟩, ((Below.refl _ _).alloc (Nat.le_refl _) _).alloc (by simp) _⟩
  rcases q with rfl | ⟨f, hf, _⟩
  · exact .inl rfl
  · cases hf
theorem op_new (room : Int) (w : World) : Calls Try.prog 6 #[.int .i64 room] w fun e w' => ∃ D, e = .returned (.pointer (some ⟨D, 0, none⟩)) ∧ (∃ B, (∀ j, B j → w.heap.size ≤ j) ∧ DB B D (max room 0) [] 0 w') ∧ Below w.heap.size w w' := by
  have hmm := @run_makeMap Try.prog
  by_cases h : room ≤ 0
  · have e1 : max room 0 = 0 := by omega
    have hd := db_new 0 w
    rw [e1]
    go_enter Try.func6, Try.ntmps6
    go_wp2_with fail
    go_ret
    exact ⟨_, rfl, hd⟩
  · have e1 : max room 0 = room := by omega
    have hd := db_new room w
    rw [e1]
    go_enter Try.func6, Try.ntmps6
    go_wp2_with fail
    go_ret
    exact ⟨_, rfl, hd⟩
section
variable {B : Nat → Prop} {D n : Nat} {room : Int} {L : List FE} {w : World} (h : DB B D room L n w)
include h
theorem op_used : Calls Try.prog 14 #[.pointer (some ⟨D, 0, none⟩)] w fun e w' => e = .returned (.int .i64 (usedF L)) ∧ Below w.heap.size w w' := by
  obtain ⟨st, h⟩ := h
  have hu := used_any D st w h.dsk h.few'
  rw [h.used] at hu
  have hk := known_any D st.m _ w h.dsk.dsk
  go_enter Try.func14, Try.ntmps14
  go_wp2_with fail
  (with_reducible refine hk.mono ?_)
  rintro _ _ ⟨rfl, rfl⟩
  go_wp2_with fail
  (with_reducible refine hu.mono ?_)
  rintro _ w1 ⟨rfl, hb⟩
  go_wp2_with fail
  go_ret
  exact ⟨rfl, hb⟩
theorem op_list : Calls Try.prog 16 #[.pointer (some ⟨D, 0, none⟩)] w fun e w' => ∃ v, e = .returned v ∧ w'.ownsRow w.heap.size 9 1 v L.length (L.map fun f => nmV f.s) ∧ Below w.heap.size w w' := by
  obtain ⟨st, h⟩ := h
  have hl := list_any D st L w h.dsk h.few' h.srt h.perm
  rw [List.map_map] at hl
  have hk := known_any D st.m _ w h.dsk.dsk
  go_enter Try.func16, Try.ntmps16
  go_wp2_with fail
  (with_reducible refine hk.mono ?_)
  rintro _ _ ⟨rfl, rfl⟩
  go_wp2_with fail
  (with_reducible refine hl.mono ?_)
  rintro _ w1 ⟨v, rfl, hr, hb⟩
  go_wp2_with fail
  go_ret
  exact ⟨v, rfl, hr, hb⟩
end
end Go.Proofs.Ytcmbeolicopicaa
