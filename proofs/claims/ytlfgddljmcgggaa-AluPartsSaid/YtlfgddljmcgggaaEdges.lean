/- The walk of the statement AluEdges, over this seat's program. -/
import Derived.Test.YtlfgddljmcgggaaSame
import Derived.StillTailTactics
namespace Go.Proofs.Ytlfgddljmcgggaa
open Go.RowKit
set_option linter.unusedVariables false

/-- Block g is just the cells cs, none frozen. -/
def Bk (w : World) (g : Nat) (t : TypeId) (cs : List Value) : Prop := w.heap[g]? = some (.cells cs.toArray t (0, 0))
theorem Bk.cell {w : World} {g : Nat} {t : TypeId} {cs : List Value} (h : Bk w g t cs) (i : Nat) : w.cell? ⟨g, i, none⟩ = cs[i]? := by
  have := cell_of_row w g i cs.toArray t (0, 0) h
  simpa using this
theorem Bk.new (w : World) (t : TypeId) (cs : List Value) : Bk (w.alloc (.cells cs.toArray t)) w.heap.size t cs := heap_alloc_new w _
theorem Bk.lt {w : World} {g : Nat} {t : TypeId} {cs : List Value} (h : Bk w g t cs) : g < w.heap.size := (Array.getElem?_eq_some_iff.1 h).1
theorem Bk.below {w w' : World} {g B : Nat} {t : TypeId} {cs : List Value} (h : Bk w g t cs) (hb : Below B w w') (hg : g < B) : Bk w' g t cs := (hb.block g hg).trans h

def edgeT : List Nat := [0, 1, 2, 31, 32, 33, 63, 64, 65, 2147483647, 2147483648, 2147483649, 4294967295, 4294967296, 4294967297, 9223372036854775807, 9223372036854775808, 9223372036854775809, 18446744073709551614, 18446744073709551615]
def edgeC : List Value := edgeT.map fun (n : Nat) => Value.int .u64 (n : Int)
theorem Bk.edge {w : World} {g : Nat} (h : Bk w g 23 edgeC) {i : Nat} (hi : i < 20) : ∃ n : Nat, w.cell? ⟨g, i, none⟩ = some (.int .u64 n) ∧ n < 18446744073709551616 := by
  have hl : i < edgeT.length := hi
  refine ⟨edgeT[i], by rw [h.cell]; simp [edgeC, hl], ?_⟩
  have : ∀ x ∈ edgeT, x < 18446744073709551616 := by decide
  exact this _ (List.getElem_mem hl)

theorem below_drew {B : Nat} {a w : World} (h : Below B a w) : Below B a w.drew := ⟨h.os, h.tape, h.output, h.size, h.block⟩
set_option maxRecDepth 100000 in
set_option maxHeartbeats 2000000 in
theorem AluEdges_walk (w : World) : Calls Try.prog 4 #[] w fun e w' => e = .returned (.bool true) ∧ Below w.heap.size w w' := by
  go_enter Try.func4, Try.ntmps4
  go_wp2_with fail
  refine (awake_any _).mono ?_
  rintro e w1 ⟨rfl, hb1⟩
  have b1 : Bk (w1.alloc (.cells edgeC.toArray 23)) w1.heap.size 23 edgeC := Bk.new w1 23 edgeC
  have hb2 : Below w.heap.size w (w1.alloc (.cells edgeC.toArray 23)) := hb1.alloc hb1.size _
  have B1 := Lib.hid b1
  have HB2 := Lib.hid hb2
  clear b1 hb2 hb1
  obtain ⟨g, hg⟩ : ∃ g, g = w1.heap.size := ⟨_, rfl⟩
  go_wp2_with fail
  go_loopw [2] (fun i wr => ∃ k : Nat, k ≤ 32 ∧ i = .int .i64 k ∧ Bk wr w1.heap.size 23 edgeC ∧ Below w.heap.size w wr) (fun i _ => 32 - (intOf i).toNat)
  case atStart => exact ⟨0, by omega, rfl, B1.out, HB2.out⟩
  case round =>
    clear B1 HB2 hg
    obtain ⟨o, ho, rfl, b, hb⟩ := hrel
    by_cases ho32 : o < 32
    · have hd1 : decide ((o : Int) < 32) = true := decide_eq_true (by omega)
      go_wp2_with fail
      obtain ⟨wo, rfl⟩ : ∃ wo : World, wo = wr := ⟨_, rfl⟩
      go_loopw [3] (fun i wr => ∃ k : Nat, k ≤ 20 ∧ i = .int .i64 k ∧ Bk wr w1.heap.size 23 edgeC ∧ Below w.heap.size w wr) (fun i _ => 20 - (intOf i).toNat)
      case atStart => exact ⟨0, by omega, rfl, b, hb⟩
      case round =>
        clear b hb
        obtain ⟨i, hi, rfl, b, hb⟩ := hrel
        by_cases hi20 : i < 20
        · have hd2 : decide ((i : Int) < 20) = true := decide_eq_true (by omega)
          go_wp2_with fail
          obtain ⟨wo2, rfl⟩ : ∃ wo : World, wo = wr := ⟨_, rfl⟩
          go_loopw [4] (fun i wr => ∃ k : Nat, k ≤ 20 ∧ i = .int .i64 k ∧ Bk wr w1.heap.size 23 edgeC ∧ Below w.heap.size w wr) (fun i _ => 20 - (intOf i).toNat)
          case atStart => exact ⟨0, by omega, rfl, b, hb⟩
          case round =>
            clear b hb
            obtain ⟨k, hk, rfl, b, hb⟩ := hrel
            by_cases hk20 : k < 20
            · have hd3 : decide ((k : Int) < 20) = true := decide_eq_true (by omega)
              obtain ⟨x, cx, hx⟩ := b.edge hi20
              obtain ⟨y, cy, hy⟩ := b.edge hk20
              have i1 : (0 : Int) ≤ (i : Int) := by omega
              have i2 : (i : Int) < 20 := by omega
              have k1 : (0 : Int) ≤ (k : Int) := by omega
              have k2 : (k : Int) < 20 := by omega
              have o1 : (0 : Int) ≤ (o : Int) := by omega
              have o2 : (o : Int) ≤ 31 := by omega
              go_wp2_with fail
              go_still_tail 10, (by kernel_rfl)
              have hbd : Below w.heap.size w wr.drew := below_drew hb
              have bd : Bk wr.drew w1.heap.size 23 edgeC := b
              have hlt := b.lt
              clear b hb cx cy
              go_wp2_with fail
              refine (same_any (o : Int) x y _ o1 hx hy).mono ?_
              rintro e w2 ⟨rfl, hbx⟩
              have hb3 := hbd.trans (hbx.mono hbd.size)
              have b3 := bd.below hbx hlt
              clear hbx bd hbd
              go_wp2_with fail
              go_roundw
              case rel => exact ⟨k + 1, by omega, by go_num, b3, hb3⟩
              case measure => simp [intOf]; omega
            · have hd3 : decide ((k : Int) < 20) = false := decide_eq_false (by omega)
              go_wp2_with fail
              go_roundw
              case rel => exact ⟨i + 1, by omega, by go_num, b, hb⟩
              case measure => simp [intOf]; omega
        · have hd2 : decide ((i : Int) < 20) = false := decide_eq_false (by omega)
          go_wp2_with fail
          go_roundw
          case rel => exact ⟨o + 1, by omega, by go_num, b, hb⟩
          case measure => simp [intOf]; omega
    · have hd1 : decide ((o : Int) < 32) = false := decide_eq_false (by omega)
      go_wp2_with fail
      go_ret
      exact ⟨rfl, hb⟩
end Go.Proofs.Ytlfgddljmcgggaa
