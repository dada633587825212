/- net: links held against each other. -/
import Derived.Test.YtenkhbiikecegaaGreatNOp
namespace Go.Proofs.YtenkhbiikecegaaGreat
open Go.RowKit Go.Maps Go.ChangeMaps
set_option linter.unusedVariables false
set_option linter.unusedSimpArgs false
set_option maxRecDepth 100000

theorem lits47 (a b : Int) (ha : I64 a) (hb : I64 b) : (linkV a b).formed Tryz.prog 38 = true ∧ Tryz.prog.keyLits (Tryz.prog.types.size + 1) 38 (linkV a b).cells.toList = some [.int .i64 a, .int .i64 b] := by
  have hc : Tryz.prog.cellsOf 38 = 2 := by kernel_rfl
  have hc3 : Tryz.prog.cellsOf 3 = 1 := by kernel_rfl
  have hs : 0 < Tryz.prog.types.size := of_decide_eq_true (by kernel_rfl)
  obtain ⟨d, hd⟩ : ∃ d, Tryz.prog.types.size = d + 1 := ⟨Tryz.prog.types.size - 1, by omega⟩
  have wa : (Lit.int .i64 a).wf = true := WalkArith.wf_i64 ha
  have wb : (Lit.int .i64 b).wf = true := WalkArith.wf_i64 hb
  refine ⟨by simp [Value.formed, linkV, Tryz.underlying38, hc], ?_⟩
  rw [hd]
  simp [Program.keyLits, linkV, Value.cells, Tryz.underlying38, Tryz.underlying3, hc, hc3, wa, wb, List.range_succ]
theorem neq47 (a b c d : Int) (ha : I64 a) (hb : I64 b) (hc : I64 c) (hd : I64 d) (w : World) : (binOp .neq 38 (linkV a b) (linkV c d)).run Tryz.prog w = .ok (.bool (!decide ((a, b) = (c, d)))) w := by
  obtain ⟨f1, k1⟩ := lits47 a b ha hb
  obtain ⟨f2, k2⟩ := lits47 c d hc hd
  obtain ⟨r, hr, hi⟩ := run_equalIn_deep (P := Tryz.prog) 9998 2 38 (by kernel_rfl) w _ _ _ _ _ _ f1 f2 k1 k2
  have e : (binOp .neq 38 (linkV a b) (linkV c d)).run Tryz.prog w = ((Op.equalIn 10000 38 (linkV a b) (linkV c d)).run Tryz.prog w).andThen fun b w' => .ok (.bool (!b)) w' := by
    unfold linkV
    exact run_neq_struct _ _ _ _
  rw [e, show (9998 + 2 : Nat) = 10000 from rfl] at *
  rw [hr]
  have : r = decide ((a, b) = (c, d)) := by
    rw [Bool.eq_iff_iff, hi]
    simp
  rw [this]
  rfl
/-- Links in memory, in a block of K. -/
def RdL (w : World) (K : Nat → Prop) (A : Option Addr) (L : List (Int × Int)) : Prop := (∀ p ∈ L, I64 p.1 ∧ I64 p.2) ∧ (L ≠ [] → ∃ g, A = some ⟨g, 0, none⟩ ∧ (K g ∧ g < w.heap.size) ∧ ∀ j u, (lkC L)[j]? = some u → w.cell? ⟨g, j, none⟩ = some u)
theorem RdL.keep {w w' : World} {K K' : Nat → Prop} {A : Option Addr} {L : List (Int × Int)} (h : RdL w K A L) (hb : ∀ g, K g → g < w.heap.size → w'.heap[g]? = w.heap[g]?) (hs : w.heap.size ≤ w'.heap.size) (hK : ∀ g, K g → g < w.heap.size → K' g) : RdL w' K' A L :=
  ⟨h.1, fun hx => let ⟨g, e, hl, hc⟩ := h.2 hx; ⟨g, e, ⟨hK g hl.1 hl.2, Nat.lt_of_lt_of_le hl.2 hs⟩, fun j u hu => (World.cell?_of_block (hb g hl.1 hl.2)).trans (hc j u hu)⟩⟩
theorem RdL.below {w w' : World} {K : Nat → Prop} {A : Option Addr} {L : List (Int × Int)} (h : RdL w K A L) (hb : Below w.heap.size w w') : RdL w' K A L :=
  h.keep (fun g _ hl => hb.block g hl) hb.size (fun _ q _ => q)
theorem RdL.at_ {w : World} {K : Nat → Prop} {A : Option Addr} {L : List (Int × Int)} (h : RdL w K A L) {k : Nat} (hk : k < L.length) : ∃ g x y, A = some ⟨g, 0, none⟩ ∧ L[k]? = some (x, y) ∧ I64 x ∧ I64 y ∧ w.cell? ⟨g, k * 2, none⟩ = some (.int .i64 x) ∧ w.cell? ⟨g, k * 2 + 1, none⟩ = some (.int .i64 y) := by
  obtain ⟨g, e, _, hc⟩ := h.2 (fun e => by rw [e] at hk; simp at hk)
  have h0 := lkC_get L (k * 2) (by omega)
  have h1 := lkC_get L (k * 2 + 1) (by omega)
  rw [show k * 2 / 2 = k by omega, show k * 2 % 2 = 0 by omega] at h0
  rw [show (k * 2 + 1) / 2 = k by omega, show (k * 2 + 1) % 2 = 1 by omega] at h1
  rw [getElem!_pos L k hk] at h0 h1
  have hm := h.1 _ (List.getElem_mem hk)
  exact ⟨g, L[k].1, L[k].2, e, by rw [List.getElem?_eq_getElem hk], hm.1, hm.2, hc _ _ h0, hc _ _ h1⟩
theorem owned_rdl {w : World} {base : Nat} {v : Value} {L : List (Int × Int)} (h : w.ownsRow base 38 2 v L.length (lkC L)) (h64 : ∀ p ∈ L, I64 p.1 ∧ I64 p.2) : ∃ A c, v = .slice A L.length c ∧ RdL w (fun g => base ≤ g) A L := by
  rcases h.2 with ⟨e1, e2⟩ | ⟨g, cap, cur, e1, hb, hg, h1, h2, h3, h4⟩
  · have : L = [] := List.eq_nil_of_length_eq_zero e2
    subst this
    exact ⟨none, 0, e1, h64, fun hx => absurd rfl hx⟩
  · subst e1
    refine ⟨_, _, rfl, h64, fun _ => ⟨g, rfl, ⟨hb, (Array.getElem?_eq_some_iff.1 hg).1⟩, fun j u hu => ?_⟩⟩
    rw [cell_of_row w g j cur _ (0, 0) hg, ← Array.getElem?_toList]
    rw [← h4, List.getElem?_take] at hu
    split at hu
    · exact hu
    · cases hu
/-- The first k links are the same. -/
def AgL (xs ys : List (Int × Int)) (k : Nat) : Prop := ∀ j, j < k → xs[j]? = ys[j]?
theorem AgL.succ {xs ys : List (Int × Int)} {k : Nat} (h : AgL xs ys k) (e : xs[k]? = ys[k]?) : AgL xs ys (k + 1) := by
  intro j hj
  rcases Nat.lt_or_ge j k with h1 | h1
  · exact h j h1
  · obtain rfl : j = k := by omega
    exact e
theorem AgL.all {xs ys : List (Int × Int)} {k : Nat} (h : AgL xs ys k) (hk : xs.length ≤ k) (hl : xs.length = ys.length) : xs = ys := by
  apply List.ext_getElem? 
  intro i
  rcases Nat.lt_or_ge i k with h1 | h1
  · exact h i h1
  · rw [List.getElem?_eq_none (by omega), List.getElem?_eq_none (by omega)]
theorem links_any (A B : Option Addr) (c d : Nat) (xs ys : List (Int × Int)) (w : World) {KA KB : Nat → Prop} (ha : RdL w KA A xs) (hb : RdL w KB B ys) (hn : xs.length ≤ 1000000000) (hm : ys.length ≤ 1000000000) :
    Calls Tryz.prog 11 #[.slice A xs.length c, .slice B ys.length d] w fun e w' => e = .returned (.bool (decide (xs = ys))) ∧ ∃ k, w' = w.drewN k := by
  by_cases hl : xs.length = ys.length
  · have hne : ((xs.length : Int) != (ys.length : Int)) = false := by simp [hl]
    have HL := Lib.hid hl
    clear hl
    go_enter Tryz.func11, Tryz.ntmps11
    go_wp2
    clear hne
    go_loopw [5] (fun i wr => ∃ k q : Nat, k ≤ xs.length ∧ i = .int .i64 k ∧ AgL xs ys k ∧ wr = w.drewN q) (fun i _ => xs.length - (intOf i).toNat)
    case atStart => exact ⟨0, 0, Nat.zero_le _, rfl, fun j hj => absurd hj (by omega), rfl⟩
    case round =>
      obtain ⟨k, q, hk, rfl, hag, rfl⟩ := hrel
      have HA := Lib.hid hag
      clear hag
      by_cases hlt : k < xs.length
      · have hlt2 : k < ys.length := by have := HL.out; omega
        obtain ⟨g1, x1, x2, rfl, hx, i1, i2, c1, c2⟩ := ha.at_ hlt
        obtain ⟨g2, y1, y2, rfl, hy, i3, i4, c3, c4⟩ := hb.at_ hlt2
        have HX := Lib.hid hx
        have HY := Lib.hid hy
        clear hx hy
        have hq := fun W => neq47 x1 x2 y1 y2 i1 i2 i3 i4 W
        unfold linkV at hq
        by_cases he : (x1, x2) = (y1, y2)
        · have hb' : decide ((x1, x2) = (y1, y2)) = true := decide_eq_true he
          have HE : Hid (xs[k]? = ys[k]?) := by rw [HX.out, HY.out, he]; exact rfl
          simp only [hb', Bool.not_true] at hq
          clear he hb'
          go_wp2
          go_quiet (fail)
          go_wp2
          go_roundw
          case rel => exact ⟨k + 1, _, by omega, by go_num, HA.out.succ HE.out, rfl⟩
          case measure => simp [intOf]; omega
        · have hb' : decide ((x1, x2) = (y1, y2)) = false := decide_eq_false he
          have HE : Hid (xs ≠ ys) := by intro e; subst e; have h1 := HX.out; rw [HY.out] at h1; injection h1 with h1; exact he h1.symm
          simp only [hb', Bool.not_false] at hq
          clear he hb'
          go_wp2
          go_quiet (fail)
          go_wp2
          go_ret
          exact ⟨by simp [HE.out], _, World.drewN_drewN _ _ _⟩
      · go_wp2
        go_ret
        exact ⟨by simp [HA.out.all (by omega) HL.out], _, rfl⟩
  · have hne : ((xs.length : Int) != (ys.length : Int)) = true := by simp; omega
    go_enter Tryz.func11, Tryz.ntmps11
    go_wp2
    go_ret
    refine ⟨?_, 0, rfl⟩
    have : xs ≠ ys := fun e => hl (by rw [e])
    simp [this]
end Go.Proofs.YtenkhbiikecegaaGreat
