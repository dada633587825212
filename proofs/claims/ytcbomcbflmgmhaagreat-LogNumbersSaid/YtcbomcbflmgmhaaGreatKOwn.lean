/- bytes.Clone, own: what they give lies in a block of its own. -/
import Derived.Test.YtcbomcbflmgmhaaGreatOwn
import Derived.Test.YtcbomcbflmgmhaaGreatPut
import Derived.Test.YtcbomcbflmgmhaaGreatSeq
namespace Go.Proofs.YtcbomcbflmgmhaaGreat
open Go.RowKit
set_option linter.unusedVariables false
set_option maxRecDepth 100000

/-- The slice at A, of capacity c, is just these bytes, from the head of a block on, of which K holds; the block has room up to the capacity. -/
def Dat (w : World) (K : Nat → Prop) (A : Option Addr) (c : Nat) (l : List Int) : Prop :=
  ∃ b, Row w 5 1 (.slice A l.length c) b l.length (u8s l) ∧ ((Value.slice A l.length c).ownBlock = some b → K b ∧ b < w.heap.size)
theorem Dat.form {w : World} {K : Nat → Prop} {A : Option Addr} {c : Nat} {l : List Int} (h : Dat w K A c l) :
    (A = none ∧ c = 0 ∧ l = []) ∨ ∃ b cur, A = some ⟨b, 0, none⟩ ∧ K b ∧ b < w.heap.size ∧ w.heap[b]? = some (.cells cur 5 (0, 0)) ∧ l.length ≤ c ∧ c ≤ maxLen ∧ cur.toList.take l.length = u8s l ∧ (l.length < c → cur.size = c) := by
  obtain ⟨b, h1, h2⟩ := h
  rcases h1.2 with ⟨e1, e2⟩ | ⟨cap, cur, e1, hg, h3, h4, h5, h6⟩
  · injection e1 with e1 e3 e4
    exact .inl ⟨e1, e4, List.eq_nil_of_length_eq_zero e2⟩
  · injection e1 with e1 e3 e4
    subst e1 e4
    obtain ⟨k1, k2⟩ := h2 rfl
    exact .inr ⟨b, cur, rfl, k1, k2, hg, h3, h4, by simpa using h5, by simpa using h6⟩
theorem Dat.rd {w : World} {K : Nat → Prop} {A : Option Addr} {c : Nat} {l : List Int} (h : Dat w K A c l) : Rd w K A c (u8s l) ∧ l.length ≤ c ∧ c ≤ maxLen := by
  rcases h.form with ⟨rfl, rfl, rfl⟩ | ⟨b, cur, rfl, hk, hb, hg, h1, h2, h3, h4⟩
  · exact ⟨Rd.none_ _ _ _ _ (fun _ => rfl), Nat.le_refl _, by decide⟩
  · refine ⟨⟨(fun e => by cases e), fun _ => ⟨_, rfl, hk, fun j u hu => ?_⟩⟩, h1, h2⟩
    have hadd : (⟨b, 0, none⟩ : Addr).add j = ⟨b, j, none⟩ := by unfold Addr.add; split <;> simp_all
    rw [hadd, cell_of_row w b j cur 5 (0, 0) hg]
    rw [← h3, List.getElem?_take] at hu
    split at hu
    · simpa using hu
    · cases hu
theorem Dat.keep {w w' : World} {K K' : Nat → Prop} {A : Option Addr} {c : Nat} {l : List Int} (h : Dat w K A c l) (hk : ∀ b, K b → b < w.heap.size → w'.heap[b]? = w.heap[b]?) (hs : w.heap.size ≤ w'.heap.size) (hK : ∀ b, K b → b < w.heap.size → K' b) : Dat w' K' A c l := by
  obtain ⟨b, h1, h2⟩ := h
  exact ⟨b, h1.keep (fun e => let ⟨k1, k2⟩ := h2 e; hk b k1 k2), fun e => let ⟨k1, k2⟩ := h2 e; ⟨hK b k1 k2, Nat.lt_of_lt_of_le k2 hs⟩⟩
theorem Dat.nil (w : World) (K : Nat → Prop) : Dat w K none 0 [] := ⟨0, Row.nil _ _ _ _, (fun e => by cases e)⟩
theorem own_dat {w w' : World} {base : Nat} {v : Value} {l : List Int} (h : w'.ownsRow base 5 1 v l.length (u8s l)) : ∃ A c, v = .slice A l.length c ∧ Dat w' (fun b => base ≤ b) A c l := by
  rcases h.2 with ⟨e1, e2⟩ | ⟨g, cap, cur, e1, hb, hg, h1, h2, h3, h4⟩
  · have : l = [] := List.eq_nil_of_length_eq_zero e2
    subst this
    exact ⟨none, 0, e1, Dat.nil _ _⟩
  · subst e1
    exact ⟨_, _, rfl, g, ⟨h.1, .inr ⟨cap, cur, rfl, hg, h1, h2, h4, fun _ => h3⟩⟩, fun _ => ⟨hb, (Array.getElem?_eq_some_iff.1 hg).1⟩⟩
theorem CloneK_any (K : Nat → Prop) (A : Option Addr) (c : Nat) (l : List Int) (w : World) (h : Rd w K A c (u8s l)) (hn : l.length ≤ 100000000) :
    Calls Tryz.prog 55 #[.slice A l.length c] w fun e w' => ∃ A' c', e = .returned (.slice A' l.length c') ∧ Dat w' (fun b => w.heap.size ≤ b) A' c' l ∧ Below w.heap.size w w' := by
  have q35 : ∀ (w : World) (a : Option Addr) (n c : Nat), (binOp .eql 51 (.slice a n c) (.slice none 0 0)).run Tryz.prog w = .ok (.bool a.isNone) w := fun w a n c => Lib.run_eql_slice_nil w _ _ _ _ _ _ _ Tryz.underlying51
  cases A with
  | none =>
    obtain ⟨h1, rfl⟩ := h.nonone rfl
    simp at h1
    subst h1
    go_enter Tryz.func55, Tryz.ntmps55
    go_wp2_with fail
    go_ret
    exact ⟨none, 0, rfl, Dat.nil _ _, Below.refl _ _⟩
  | some a =>
    obtain ⟨i0, hi, hz0, hz1, hz2⟩ : ∃ i0 : TypeInfo, Tryz.prog.info? 5 = some i0 ∧ i0.zero = some (.int .u8 0) ∧ i0.size = 1 ∧ i0.bytes = 1 := ⟨_, rfl, rfl, rfl, rfl⟩
    have H := Lib.hid h
    clear h
    have hm0 : (w.alloc (.cells #[] 5)).ownsRow w.heap.size 5 1 (.slice (some ⟨w.heap.size, 0, none⟩) 0 0) 0 [] := World.ownsRow_made w #[] 0 (Nat.le_refl _) (by decide) rfl
    have hc0 : ∀ j u, (u8s l)[j]? = some u → (w.alloc (.cells #[] 5)).cell? (a.add j) = some u := by
      intro j u hu
      obtain ⟨a', e', _, hc⟩ := H.out.2 (by intro e; rw [e] at hu; cases hu)
      injection e' with e'
      subst e'
      have h1 := hc j u hu
      rw [World.cell?_of_block (heap_alloc_old w _ (World.block_lt_of_cell? w _ h1))]
      exact h1
    go_enter Tryz.func55, Tryz.ntmps55
    go_wp2_with (at_builtin; refine wpList_append_own _ rfl _ _ 51 rfl w.heap.size 5 i0 (.int .u8 0) 1 1 Tryz.underlying51 hi hz0 hz1 hz2 rfl (by decide) (.slice (some ⟨w.heap.size, 0, none⟩) 0 0) 0 [] rfl hm0 a l.length c (u8s l) rfl (by simp) hc0 (u8s_one _) (by unfold maxLen; omega) (by omega) (by simp) ?_; intro v' w1 hown hgrow hv)
    simp only [Nat.zero_add, List.nil_append] at hown
    have hbel : Below w.heap.size w w1 := ((Below.refl w.heap.size w).alloc (Nat.le_refl _) _).grown hgrow (by simp) (by intro k e; simp [Value.ownBlock] at e; omega)
    have hrd := own_dat (w := w) hown
    clear hown hgrow hv
    obtain ⟨A', c', rfl, hd⟩ := hrd
    go_ret
    exact ⟨_, _, rfl, hd, hbel⟩
theorem ownK_any (K : Nat → Prop) (e : En) (A : Option Addr) (c : Nat) (w : World) (h : Rd w K A c (u8s e.data)) (hK : ∀ b, K b → b < w.heap.size) (hn : e.data.length ≤ 100000000) :
    Calls Tryz.prog 42 #[enA e A c] w fun x w' => ∃ A' c', x = .returned (enA e A' c') ∧ Dat w' (fun b => w.heap.size ≤ b) A' c' e.data ∧ Below w.heap.size w w' := by
  unfold enA enV
  go_enter Tryz.func42, Tryz.ntmps42
  go_wp2_with fail
  refine (CloneK_any K A c e.data _ (h.keep (fun b hb => ?_) (fun _ h => h)) hn).mono ?_
  · exact keep2 _ _ _ _ (hK b hb)
  rintro x w1 ⟨A', c', rfl, hr, hb⟩
  have hbe := below2 w (.cells #[.int .i64 e.term, .int .u8 e.kind, .int .i64 e.ver, .int .i64 e.srv, .bool e.good, .slice A e.data.length c] 53) (.cells #[.int .i64 0, .int .u8 0, .int .i64 0, .int .i64 0, .bool false, .slice none 0 0] 53) 0
  have hB1 : Below w.heap.size w w1 := hbe.trans (hb.mono (by simp; omega))
  have b0 : w1.heap[w.heap.size]? = some (.cells #[.int .i64 e.term, .int .u8 e.kind, .int .i64 e.ver, .int .i64 e.srv, .bool e.good, .slice A e.data.length c] 53 (0, 0)) := (hb.block _ (by simp; omega)).trans (heap_alloc2_old w _ _)
  have b1 : w1.heap[w.heap.size + 1]? = some (.cells #[.int .i64 0, .int .u8 0, .int .i64 0, .int .i64 0, .bool false, .slice none 0 0] 53 (0, 0)) := (hb.block _ (by simp)).trans (heap_alloc2_new w _ _)
  clear hb hbe
  have f0 := frozen_blk b0
  have f1 := frozen_blk b1
  obtain ⟨a0, a1, a2, a3, a4, a5⟩ := cells6 b0
  obtain ⟨d0, d1, d2, d3, d4, d5⟩ := cells6 b1
  have B0 := Lib.hid b0
  have B1 := Lib.hid b1
  clear b0 b1
  go_wp2_with fail
  refine bodyPost_ret (v := .agg #[.int .i64 e.term, .int .u8 e.kind, .int .i64 e.ver, .int .i64 e.srv, .bool e.good, .slice A' e.data.length c']) (by simp [results, Tryz.results42, go_sem, d0, d1, d2, d3, d4, d5]) rfl ⟨A', c', rfl, ?_, ?_⟩
  · refine hr.keep (fun b hb _ => ?_) (by simp [World.setCell]) (fun b hb _ => ?_)
    · have h3 : w.heap.size + 2 ≤ b := by simp at hb; omega
      iterate 7 rw [Below.heap_setCell _ _ _ _ (by show b ≠ _; simp only []; omega)]
    · simp at hb; omega
  · exact ((((((hB1.setCell (Nat.le_refl _) _).setCell (Nat.le_succ _) _).setCell (Nat.le_succ _) _).setCell (Nat.le_succ _) _).setCell (Nat.le_succ _) _).setCell (Nat.le_succ _) _).setCell (Nat.le_succ _) _
end Go.Proofs.YtcbomcbflmgmhaaGreat
