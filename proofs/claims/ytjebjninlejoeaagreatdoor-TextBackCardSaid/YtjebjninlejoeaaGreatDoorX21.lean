/- text, the walk: rows of instructions; are all right? -/
import Derived.Test.YtjebjninlejoeaaGreatDoorX20
namespace Go.Proofs.YtjebjninlejoeaaGreatDoor
open Go.RowKit Go.Maps Go.ChangeMaps
set_option linter.unusedVariables false
set_option linter.unusedSimpArgs false
set_option linter.unusedSectionVars false
set_option maxRecDepth 100000

/-- A slice of instructions, in blocks of K. -/
def Ivs (w : World) (K : Nat → Prop) (A : Option Addr) (c : Nat) (l : List IV) : Prop :=
  l.length ≤ c ∧ (l ≠ [] → ∃ g o, A = some ⟨g, o, none⟩ ∧ K g ∧ ∀ (j : Nat) (i : IV), l[j]? = some i → ∀ (m : Nat) (v : Value), (ivV i)[m]? = some v → w.cell? ⟨g, o + j * 8 + m, none⟩ = some v)
theorem Ivs.keep {w w' : World} {K : Nat → Prop} {A : Option Addr} {c : Nat} {l : List IV} (h : Ivs w K A c l) (hk : ∀ b, b < w.heap.size → K b → w'.heap[b]? = w.heap[b]?) : Ivs w' K A c l := by
  refine ⟨h.1, fun hx => ?_⟩
  obtain ⟨g, o, e, hg, hc⟩ := h.2 hx
  exact ⟨g, o, e, hg, fun j i hj m v hv => (World.cell?_of_block (hk g (World.block_lt_of_cell? w _ (hc j i hj m v hv)) hg)).trans (hc j i hj m v hv)⟩
theorem Ivs.below {w w' : World} {K : Nat → Prop} {A : Option Addr} {c : Nat} {l : List IV} (h : Ivs w K A c l) (hb : Below w.heap.size w w') : Ivs w' K A c l := h.keep fun b hl _ => hb.block b hl
theorem Ivs.at_ {w : World} {K : Nat → Prop} {A : Option Addr} {c : Nat} {l : List IV} (h : Ivs w K A c l) {k : Nat} {i : IV} (hk : l[k]? = some i) : ∃ g o, A = some ⟨g, o, none⟩ ∧
    w.cell? ⟨g, o + k * 8, none⟩ = some (.int .u8 i.op) ∧ w.cell? ⟨g, o + k * 8 + 1, none⟩ = some (.bool i.narrow) ∧ w.cell? ⟨g, o + k * 8 + 2, none⟩ = some (.int .i64 i.dst) ∧ w.cell? ⟨g, o + k * 8 + 3, none⟩ = some (.int .i64 i.src) ∧ w.cell? ⟨g, o + k * 8 + 4, none⟩ = some (.bool i.useImm) ∧ w.cell? ⟨g, o + k * 8 + 5, none⟩ = some (.int .i64 i.off) ∧ w.cell? ⟨g, o + k * 8 + 6, none⟩ = some (.int .i64 i.imm) ∧ w.cell? ⟨g, o + k * 8 + 7, none⟩ = some (.int .i64 i.size) := by
  obtain ⟨g, o, e, hg, hc⟩ := h.2 (by rintro rfl; simp at hk)
  have := hc k i hk
  exact ⟨g, o, e, this 0 _ rfl, this 1 _ rfl, this 2 _ rfl, this 3 _ rfl, this 4 _ rfl, this 5 _ rfl, this 6 _ rfl, this 7 _ rfl⟩
theorem wrong_any (i : IV) (w : World) : Calls Tryz.prog 34 #[.agg (ivV i).toArray] w fun e w' => e = .returned (.bool (!rightP i)) ∧ Below w.heap.size w w' := by
  have hR := right_any i
  obtain ⟨op, nr, d, s, u, o, m, z⟩ := i
  show Calls Tryz.prog 34 #[.agg #[.int .u8 op, .bool nr, .int .i64 d, .int .i64 s, .bool u, .int .i64 o, .int .i64 m, .int .i64 z]] w _
  have n1 := (Below.refl w.heap.size w).alloc (Nat.le_refl _) (.cells #[.int .u8 op, .bool nr, .int .i64 d, .int .i64 s, .bool u, .int .i64 o, .int .i64 m, .int .i64 z] 40)
  unfold ivV at hR
  go_enter Tryz.func34, Tryz.ntmps34
  go_wp2_with fail
  (with_reducible refine (hR _).mono ?_)
  rintro _ w1 ⟨rfl, b1⟩
  go_wp2_with fail
  go_ret
  exact ⟨rfl, n1.trans (b1.mono n1.size)⟩
set_option maxHeartbeats 1000000 in
theorem index_any {K : Nat → Prop} (A : Option Addr) (c : Nat) (l : List IV) (w : World) (h : Ivs w K A c l) (hl : l.length ≤ 100000) : Calls Tryz.prog 98 #[.slice A l.length c, .func (.func 34) #[] #[]] w fun e w' => (∃ r : Int, e = .returned (.int .i64 r) ∧ (0 ≤ r ↔ l.all rightP = false)) ∧ Below w.heap.size w w' := by
  go_enter Tryz.func98, Tryz.ntmps98
  go_wp2_with fail
  go_loopw [8] (fun i wr => ∃ k : Nat, k ≤ l.length ∧ i = .int .i64 k ∧ (l.take k).all rightP = true ∧ Below w.heap.size w wr) (fun i _ => l.length - (intOf i).toNat)
  case atStart => exact ⟨0, Nat.zero_le _, rfl, rfl, Below.refl _ _⟩
  case round =>
    obtain ⟨k, hk, rfl, hall, hb⟩ := hrel
    by_cases hlt : k < l.length
    · have d1 : decide ((k : Int) < (l.length : Int)) = true := decide_eq_true (by omega)
      obtain ⟨i, hi⟩ : ∃ i, l[k]? = some i := ⟨l[k], List.getElem?_eq_getElem hlt⟩
      obtain ⟨g, o, rfl, c0, c1, c2, c3, c4, c5, c6, c7⟩ := (h.below hb).at_ hi
      have q1 : (0 : Int) ≤ (k : Int) := by omega
      have q2 : (k : Int) < (l.length : Int) := by omega
      have hw := wrong_any i wr
      unfold ivV at hw
      have hm := List.mem_of_getElem? hi
      cases hr : rightP i with
      | true =>
        rw [hr] at hw
        go_wp2_with fail
        (with_reducible refine hw.mono ?_)
        rintro _ w2 ⟨rfl, b2⟩
        go_wp2_with fail
        go_roundw
        case rel =>
          refine ⟨k + 1, by omega, by go_num, ?_, hb.trans (b2.mono hb.size)⟩
          rw [List.take_add_one, hi, List.all_append, hall]
          simp [hr]
        case measure => simp [intOf]; omega
      | false =>
        rw [hr] at hw
        have hA : l.all rightP = false := by
          rw [Bool.eq_false_iff]
          intro q
          have := List.all_eq_true.1 q i hm
          rw [hr] at this
          cases this
        go_wp2_with fail
        (with_reducible refine hw.mono ?_)
        rintro _ w2 ⟨rfl, b2⟩
        go_wp2_with fail
        go_ret
        exact ⟨⟨k, rfl, by rw [hA]; simp⟩, hb.trans (b2.mono hb.size)⟩
    · have d1 : decide ((k : Int) < (l.length : Int)) = false := decide_eq_false (by omega)
      rw [List.take_of_length_le (by omega)] at hall
      go_wp2_with fail
      go_ret
      exact ⟨⟨-1, rfl, by rw [hall]; simp⟩, hb⟩
theorem contains_aux {K : Nat → Prop} (b : Bool) (A : Option Addr) (c : Nat) (l : List IV) (w : World) (h : Ivs w K A c l) (hl : l.length ≤ 100000) (hb : (l.all rightP = false ↔ b = true)) : Calls Tryz.prog 33 #[.slice A l.length c, .func (.func 34) #[] #[]] w fun e w' => e = .returned (.bool b) ∧ Below w.heap.size w w' := by
  have hI : Calls _ _ _ _ fun e w' => (∃ r : Int, e = .returned (.int .i64 r) ∧ decide (0 ≤ r) = b) ∧ Below w.heap.size w w' := (index_any A c l w h hl).mono fun e w' ⟨⟨r, he, hr⟩, b1⟩ => ⟨⟨r, he, by
    cases b with
    | true => exact decide_eq_true (hr.2 (hb.2 rfl))
    | false => exact decide_eq_false (fun q => by have := hb.1 (hr.1 q); cases this)⟩, b1⟩
  clear hb
  go_enter Tryz.func33, Tryz.ntmps33
  go_wp2_with fail
  (with_reducible refine hI.mono ?_)
  rintro _ w1 ⟨⟨r, rfl, hd⟩, b1⟩
  go_wp2_with fail
  go_ret
  refine ⟨?_, b1⟩
  first | rfl | rw [← hd]
theorem contains_any {K : Nat → Prop} (A : Option Addr) (c : Nat) (l : List IV) (w : World) (h : Ivs w K A c l) (hl : l.length ≤ 100000) : Calls Tryz.prog 33 #[.slice A l.length c, .func (.func 34) #[] #[]] w fun e w' => e = .returned (.bool (!l.all rightP)) ∧ Below w.heap.size w w' :=
  contains_aux _ A c l w h hl (by cases l.all rightP <;> simp)
end Go.Proofs.YtjebjninlejoeaaGreatDoor

