/- SameBytes, SameEntry, SameEntries, EntriesOf, great. (A text of this name stands between Same and Own; here it holds nothing of its own.). -/
import Derived.Test.YthfofnfkopnbhaaBase
import Derived.StillTailTactics
import Derived.Laws.Cells
import Derived.Deep.MidRow
namespace Go.Proofs.Ythfofnfkopnbhaa
open Go.RowKit
set_option linter.unusedVariables false
set_option maxRecDepth 100000

/-- The two lists' first k numbers are the same. -/
def Agree (xs ys : List Int) (k : Nat) : Prop := ∀ j, j < k → xs[j]? = ys[j]?
theorem Agree.succ {xs ys : List Int} {k : Nat} (h : Agree xs ys k) (e : xs[k]? = ys[k]?) : Agree xs ys (k + 1) := by
  intro j hj
  rcases Nat.lt_or_ge j k with h1 | h1
  · exact h j h1
  · obtain rfl : j = k := by omega
    exact e
theorem Agree.all {xs ys : List Int} {k : Nat} (h : Agree xs ys k) (hk : xs.length ≤ k) (hl : xs.length = ys.length) : xs = ys := by
  apply List.ext_getElem? 
  intro i
  rcases Nat.lt_or_ge i k with h1 | h1
  · exact h i h1
  · rw [List.getElem?_eq_none (by omega), List.getElem?_eq_none (by omega)]

theorem SameBytes_any (KA KB : Nat → Prop) (A B : Option Addr) (c d : Nat) (xs ys : List Int) (w : World) (ha : Rd w KA A c (u8s xs)) (hb : Rd w KB B d (u8s ys))
    (hn : xs.length ≤ 9223372036854775807) (hm : ys.length ≤ 9223372036854775807) :
    Calls Try.prog 74 #[.slice A xs.length c, .slice B ys.length d] w fun e w' => e = .returned (.bool (decide (xs = ys))) ∧ ∃ k, w' = w.drewN k := by
  by_cases hl : xs.length = ys.length
  · have hne : ((xs.length : Int) != (ys.length : Int)) = false := by simp [hl]
    have HL := Lib.hid hl
    clear hl
    go_enter Try.func74, Try.ntmps74
    go_wp2
    clear hne
    go_loopw [5] (fun i wr => ∃ k q : Nat, k ≤ xs.length ∧ i = .int .i64 k ∧ Agree xs ys k ∧ wr = w.drewN q) (fun i _ => xs.length - (intOf i).toNat)
    case atStart => exact ⟨0, 0, Nat.zero_le _, rfl, fun j hj => absurd hj (by omega), rfl⟩
    case round =>
      obtain ⟨k, q, hk, rfl, hag, rfl⟩ := hrel
      have HA := Lib.hid hag
      clear hag
      by_cases hlt : k < xs.length
      · have hlt2 : k < ys.length := by have := HL.out; omega
        obtain ⟨a, x, rfl, _, ca, hx⟩ := ha.at_ hlt
        obtain ⟨b, y, rfl, _, cb, hy⟩ := hb.at_ hlt2
        by_cases he : x = y
        · have hb' : (x != y) = false := by simp [he]
          have HE : Hid (xs[k]? = ys[k]?) := by rw [hx.out, hy.out, he]; exact rfl
          clear he
          go_wp2
          go_quiet (fail)
          go_wp2
          go_roundw
          case rel => exact ⟨k + 1, _, by omega, by go_num, HA.out.succ HE.out, rfl⟩
          case measure => simp [intOf]; omega
        · have hb' : (x != y) = true := by simp [he]
          have HE : Hid (xs ≠ ys) := by intro e; subst e; have h1 := hx.out; rw [hy.out] at h1; injection h1 with h1; exact he h1.symm
          clear he
          go_wp2
          go_quiet (fail)
          go_wp2
          go_ret
          exact ⟨by simp [HE.out], _, World.drewN_drewN _ _ _⟩
      · go_wp2
        go_ret
        exact ⟨by simp [HA.out.all (by omega) HL.out], _, rfl⟩
  · have hne : ((xs.length : Int) != (ys.length : Int)) = true := by simp; omega
    go_enter Try.func74, Try.ntmps74
    go_wp2
    go_ret
    refine ⟨?_, 0, rfl⟩
    have : xs ≠ ys := fun e => hl (by rw [e])
    simp [this]

theorem below2 (w : World) (o o' : Obj) (n : Nat) : Below w.heap.size w (((w.alloc o).alloc o').drewN n) := by
  have h := ((Below.refl w.heap.size w).alloc (Nat.le_refl _) o)
  have h2 := h.alloc h.size o'
  exact ⟨h2.os, h2.tape, h2.output, h2.size, h2.block⟩
theorem keep2 (w : World) (o o' : Obj) (b : Nat) (h : b < w.heap.size) : ((w.alloc o).alloc o').heap[b]? = w.heap[b]? := (below2 w o o' 0).block b h
theorem SameEntry_any (KA KB : Nat → Prop) (e f : En) (A B : Option Addr) (c d : Nat) (w : World) (ha : Rd w KA A c (u8s e.data)) (hb : Rd w KB B d (u8s f.data)) (hKA : ∀ b, KA b → b < w.heap.size) (hKB : ∀ b, KB b → b < w.heap.size)
    (hn : e.data.length ≤ 9223372036854775807) (hm : f.data.length ≤ 9223372036854775807) :
    Calls Try.prog 60 #[enA e A c, enA f B d] w fun x w' => x = .returned (.bool (decide (e = f))) ∧ Below w.heap.size w w' := by
  unfold enA enV
  go_enter Try.func60, Try.ntmps60
  go_wp2_with fail
  · rename_i h1 h2 h3 h4 h5
    have HE : Hid (decide (e.data = f.data) = decide (e = f)) := by
      have : (e.data = f.data) = (e = f) := by
        obtain ⟨⟩ := e
        obtain ⟨⟩ := f
        simp_all
      exact decide_eq_decide.2 (by rw [this])
    refine (SameBytes_any KA KB A B c d e.data f.data _ (ha.keep (fun b hb' => ?_) (fun _ h => h)) (hb.keep (fun b hb' => ?_) (fun _ h => h)) hn hm).mono ?_
    · exact keep2 _ _ _ _ (hKA b hb')
    · exact keep2 _ _ _ _ (hKB b hb')
    rintro x w1 ⟨rfl, n, rfl⟩
    rw [HE.out]
    go_wp2_with fail
    go_ret
    exact ⟨rfl, below2 _ _ _ n⟩
  all_goals
    go_ret
    refine ⟨?_, below2 _ _ _ 0⟩
    have : e ≠ f := by rintro rfl; simp_all
    simp [this]

theorem Ents.at_ {w : World} {K : Nat → Prop} {A : Option Addr} {c : Nat} {es : List En} (h : Ents w K A c es) {k : Nat} (hk : k < es.length) :
    ∃ a e D d, A = some a ∧ K a.block ∧ Hid (es[k]? = some e) ∧ (∀ j, j < 6 → w.cell? ((a.add (k * 6)).add j) = (enV e D d)[j]?) ∧ Rd w K D d (u8s e.data) ∧ e.data.length ≤ d ∧ d ≤ maxLen := by
  obtain ⟨a, e, hc⟩ := h.2.2.2 (by rintro rfl; simp at hk)
  obtain ⟨D, d, hb, hcell, hr, hl, hm⟩ := hc k _ (List.getElem?_eq_getElem hk)
  rw [add_blk] at hb
  exact ⟨a, _, D, d, e, hb, List.getElem?_eq_getElem hk, hcell, hr, hl, hm⟩
theorem en6 {w : World} {p : Addr} {e : En} {D : Option Addr} {d : Nat} (h : ∀ j, j < 6 → w.cell? (p.add j) = (enV e D d)[j]?) :
    w.cell? p = some (.int .i64 e.term) ∧ w.cell? ⟨p.block, p.off + 1, none⟩ = some (.int .u8 e.kind) ∧ w.cell? ⟨p.block, p.off + 2, none⟩ = some (.int .i64 e.ver) ∧
    w.cell? ⟨p.block, p.off + 3, none⟩ = some (.int .i64 e.srv) ∧ w.cell? ⟨p.block, p.off + 4, none⟩ = some (.bool e.good) ∧ w.cell? ⟨p.block, p.off + 5, none⟩ = some (.slice D e.data.length d) :=
  ⟨h 0 (by omega), h 1 (by omega), h 2 (by omega), h 3 (by omega), h 4 (by omega), h 5 (by omega)⟩
/-- The two lists' first k entries are the same. -/
def AgreeE (xs ys : List En) (k : Nat) : Prop := ∀ j, j < k → xs[j]? = ys[j]?
theorem AgreeE.succ {xs ys : List En} {k : Nat} (h : AgreeE xs ys k) (e : xs[k]? = ys[k]?) : AgreeE xs ys (k + 1) := by
  intro j hj
  rcases Nat.lt_or_ge j k with h1 | h1
  · exact h j h1
  · obtain rfl : j = k := by omega
    exact e
theorem AgreeE.all {xs ys : List En} {k : Nat} (h : AgreeE xs ys k) (hk : xs.length ≤ k) (hl : xs.length = ys.length) : xs = ys := by
  apply List.ext_getElem?
  intro i
  rcases Nat.lt_or_ge i k with h1 | h1
  · exact h i h1
  · rw [List.getElem?_eq_none (by omega), List.getElem?_eq_none (by omega)]

set_option maxHeartbeats 1000000 in
theorem SameEntries_any (KA KB : Nat → Prop) (A B : Option Addr) (c d : Nat) (xs ys : List En) (w : World) (ha : Ents w KA A c xs) (hb : Ents w KB B d ys) (hKA : ∀ b, KA b → b < w.heap.size) (hKB : ∀ b, KB b → b < w.heap.size) :
    Calls Try.prog 64 #[.slice A xs.length c, .slice B ys.length d] w fun e w' => e = .returned (.bool (decide (xs = ys))) ∧ Below w.heap.size w w' := by
  have hn : xs.length ≤ 9223372036854775807 := Nat.le_trans ha.2.1 (Nat.le_trans ha.2.2.1 (by decide))
  have hm : ys.length ≤ 9223372036854775807 := Nat.le_trans hb.2.1 (Nat.le_trans hb.2.2.1 (by decide))
  by_cases hl : xs.length = ys.length
  · have hne : ((xs.length : Int) != (ys.length : Int)) = false := by simp [hl]
    have HL := Lib.hid hl
    clear hl
    go_enter Try.func64, Try.ntmps64
    go_wp2
    clear hne
    go_loopw [5] (fun i wr => ∃ k : Nat, k ≤ xs.length ∧ i = .int .i64 k ∧ AgreeE xs ys k ∧ Below w.heap.size w wr) (fun i _ => xs.length - (intOf i).toNat)
    case atStart => exact ⟨0, Nat.zero_le _, rfl, fun j hj => absurd hj (by omega), Below.refl _ _⟩
    case round =>
      obtain ⟨k, hk, rfl, hag, hB⟩ := hrel
      have HA := Lib.hid hag
      clear hag
      by_cases hlt : k < xs.length
      · have hlt2 : k < ys.length := by have := HL.out; omega
        have ha' := ha.keep (K' := KA) (fun b hb' => hB.block b (hKA b hb')) (fun _ h => h)
        have hb2 := hb.keep (K' := KB) (fun b hb' => hB.block b (hKB b hb')) (fun _ h => h)
        obtain ⟨a, x, D, d1, rfl, ka, hx, ca, ra, la, ma⟩ := ha'.at_ hlt
        obtain ⟨b, y, E, d2, rfl, kb, hy, cb, rb, lb, mb⟩ := hb2.at_ hlt2
        have hlt' : decide ((k : Int) < (xs.length : Int)) = true := decide_eq_true (by omega)
        obtain ⟨a0, a1, a2, a3, a4, a5⟩ := en6 ca
        obtain ⟨b0, b1, b2, b3, b4, b5⟩ := en6 cb
        clear ca cb
        go_wp2_with fail
        go_still_tail 8, (by kernel_rfl)
        clear a0 a1 a2 a3 a4 a5 b0 b1 b2 b3 b4 b5 ha' hb2
        have hBd : Below w.heap.size w wr.drew := ⟨hB.os, hB.tape, hB.output, hB.size, hB.block⟩
        go_wp2_with fail
        refine (SameEntry_any KA KB x y D E d1 d2 wr.drew ra rb (fun b h => Nat.lt_of_lt_of_le (hKA b h) hB.size) (fun b h => Nat.lt_of_lt_of_le (hKB b h) hB.size) (Nat.le_trans la (Nat.le_trans ma (by decide))) (Nat.le_trans lb (Nat.le_trans mb (by decide)))).mono ?_
        rintro r w2 ⟨rfl, hb2⟩
        have hB2 := hBd.trans (hb2.mono hBd.size)
        clear hb2 hBd hB
        by_cases he : x = y
        · have hd : decide (x = y) = true := decide_eq_true he
          have HE : Hid (xs[k]? = ys[k]?) := by rw [hx.out, hy.out, he]; exact rfl
          rw [hd]
          clear he hd hx hy
          go_wp2_with fail
          go_roundw
          case rel => exact ⟨k + 1, by omega, by go_num, HA.out.succ HE.out, hB2⟩
          case measure => simp [intOf]; omega
        · have hd : decide (x = y) = false := decide_eq_false he
          have HE : Hid (xs ≠ ys) := by intro e; subst e; have h1 := hx.out; rw [hy.out] at h1; injection h1 with h1; exact he h1.symm
          rw [hd]
          clear he hd hx hy
          go_wp2_with fail
          go_ret
          exact ⟨by simp [HE.out], hB2⟩
      · have hlt' : decide ((k : Int) < (xs.length : Int)) = false := decide_eq_false (by omega)
        go_wp2
        go_ret
        exact ⟨by simp [HA.out.all (by omega) HL.out], hB⟩
  · have hne : ((xs.length : Int) != (ys.length : Int)) = true := by simp; omega
    go_enter Try.func64, Try.ntmps64
    go_wp2
    go_ret
    refine ⟨?_, Below.refl _ _⟩
    have : xs ≠ ys := fun e => hl (by rw [e])
    simp [this]
end Go.Proofs.Ythfofnfkopnbhaa

