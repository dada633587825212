/- bytes.Clone, own: what they give lies in a block of its own. put: a log, by the blocks in which it lies. -/
import Derived.Test.YthfofnfkopnbhaaOwn
import Derived.Test.YthfofnfkopnbhaaPut
import Derived.Test.YthfofnfkopnbhaaSeq
import Derived.Test.YthfofnfkopnbhaaEntry
namespace Go.Proofs.Ythfofnfkopnbhaa
open Go.RowKit
set_option linter.unusedVariables false
set_option maxRecDepth 100000

/-- The slice at A, of capacity c, is just these bytes, from the head of a block on, of which K holds; the block has room up to the capacity. -/
def Dat (w : World) (K : Nat → Prop) (A : Option Addr) (c : Nat) (l : List Int) : Prop :=
  ∃ b, Row w 5 1 (.slice A l.length c) b l.length (u8s l) ∧ ((Value.slice A l.length c).ownBlock = some b → K b ∧ b < w.heap.size)
theorem Dat.form {w : World} {K : Nat → Prop} {A : Option Addr} {c : Nat} {l : List Int} (h : Dat w K A c l) :
    (A = none ∧ c = 0 ∧ l = []) ∨ ∃ b cur, A = some ⟨b, 0, none⟩ ∧ K b ∧ b < w.heap.size ∧ w.heap[b]? = some (.cells cur 5 (0, 0)) ∧ l.length ≤ c ∧ c ≤ maxLen ∧ cur.toList.take l.length = u8s l ∧ (l.length < c → cur.size = c) := by
  obtain ⟨b, h1, h2⟩ := h
  rcases h1.2 with ⟨e1, e2⟩ | ⟨cap, cur, e1, hg, h3, h4, h5, h6⟩
  · injection e1 with e1 e3 e4
    exact .inl ⟨e1, e4, List.eq_nil_of_length_eq_zero e2⟩
  · injection e1 with e1 e3 e4
    subst e1 e4
    obtain ⟨k1, k2⟩ := h2 rfl
    exact .inr ⟨b, cur, rfl, k1, k2, hg, h3, h4, by simpa using h5, by simpa using h6⟩
theorem Dat.rd {w : World} {K : Nat → Prop} {A : Option Addr} {c : Nat} {l : List Int} (h : Dat w K A c l) : Rd w K A c (u8s l) ∧ l.length ≤ c ∧ c ≤ maxLen := by
  rcases h.form with ⟨rfl, rfl, rfl⟩ | ⟨b, cur, rfl, hk, hb, hg, h1, h2, h3, h4⟩
  · exact ⟨Rd.none_ _ _ _ _ (fun _ => rfl), Nat.le_refl _, by decide⟩
  · refine ⟨⟨(fun e => by cases e), fun _ => ⟨_, rfl, hk, fun j u hu => ?_⟩⟩, h1, h2⟩
    have hadd : (⟨b, 0, none⟩ : Addr).add j = ⟨b, j, none⟩ := by unfold Addr.add; split <;> simp_all
    rw [hadd, cell_of_row w b j cur 5 (0, 0) hg]
    rw [← h3, List.getElem?_take] at hu
    split at hu
    · simpa using hu
    · cases hu
theorem Dat.keep {w w' : World} {K K' : Nat → Prop} {A : Option Addr} {c : Nat} {l : List Int} (h : Dat w K A c l) (hk : ∀ b, K b → b < w.heap.size → w'.heap[b]? = w.heap[b]?) (hs : w.heap.size ≤ w'.heap.size) (hK : ∀ b, K b → b < w.heap.size → K' b) : Dat w' K' A c l := by
  obtain ⟨b, h1, h2⟩ := h
  exact ⟨b, h1.keep (fun e => let ⟨k1, k2⟩ := h2 e; hk b k1 k2), fun e => let ⟨k1, k2⟩ := h2 e; ⟨hK b k1 k2, Nat.lt_of_lt_of_le k2 hs⟩⟩
theorem Dat.nil (w : World) (K : Nat → Prop) : Dat w K none 0 [] := ⟨0, Row.nil _ _ _ _, (fun e => by cases e)⟩
theorem own_dat {w w' : World} {base : Nat} {v : Value} {l : List Int} (h : w'.ownsRow base 5 1 v l.length (u8s l)) : ∃ A c, v = .slice A l.length c ∧ Dat w' (fun b => base ≤ b) A c l := by
  rcases h.2 with ⟨e1, e2⟩ | ⟨g, cap, cur, e1, hb, hg, h1, h2, h3, h4⟩
  · have : l = [] := List.eq_nil_of_length_eq_zero e2
    subst this
    exact ⟨none, 0, e1, Dat.nil _ _⟩
  · subst e1
    exact ⟨_, _, rfl, g, ⟨h.1, .inr ⟨cap, cur, rfl, hg, h1, h2, h4, fun _ => h3⟩⟩, fun _ => ⟨hb, (Array.getElem?_eq_some_iff.1 hg).1⟩⟩
theorem CloneK_any (K : Nat → Prop) (A : Option Addr) (c : Nat) (l : List Int) (w : World) (h : Rd w K A c (u8s l)) (hn : l.length ≤ 100000000) :
    Calls Try.prog 72 #[.slice A l.length c] w fun e w' => ∃ A' c', e = .returned (.slice A' l.length c') ∧ Dat w' (fun b => w.heap.size ≤ b) A' c' l ∧ Below w.heap.size w w' := by
  have q35 : ∀ (w : World) (a : Option Addr) (n c : Nat), (binOp .eql 42 (.slice a n c) (.slice none 0 0)).run Try.prog w = .ok (.bool a.isNone) w := fun w a n c => Lib.run_eql_slice_nil w _ _ _ _ _ _ _ Try.underlying42
  cases A with
  | none =>
    obtain ⟨h1, rfl⟩ := h.nonone rfl
    simp at h1
    subst h1
    go_enter Try.func72, Try.ntmps72
    go_wp2_with fail
    go_ret
    exact ⟨none, 0, rfl, Dat.nil _ _, Below.refl _ _⟩
  | some a =>
    obtain ⟨i0, hi, hz0, hz1, hz2⟩ : ∃ i0 : TypeInfo, Try.prog.info? 5 = some i0 ∧ i0.zero = some (.int .u8 0) ∧ i0.size = 1 ∧ i0.bytes = 1 := ⟨_, rfl, rfl, rfl, rfl⟩
    have H := Lib.hid h
    clear h
    have hm0 : (w.alloc (.cells #[] 5)).ownsRow w.heap.size 5 1 (.slice (some ⟨w.heap.size, 0, none⟩) 0 0) 0 [] := World.ownsRow_made w #[] 0 (Nat.le_refl _) (by decide) rfl
    have hc0 : ∀ j u, (u8s l)[j]? = some u → (w.alloc (.cells #[] 5)).cell? (a.add j) = some u := by
      intro j u hu
      obtain ⟨a', e', _, hc⟩ := H.out.2 (by intro e; rw [e] at hu; cases hu)
      injection e' with e'
      subst e'
      have h1 := hc j u hu
      rw [World.cell?_of_block (heap_alloc_old w _ (World.block_lt_of_cell? w _ h1))]
      exact h1
    go_enter Try.func72, Try.ntmps72
    go_wp2_with (at_builtin; refine wpList_append_own _ rfl _ _ 42 rfl w.heap.size 5 i0 (.int .u8 0) 1 1 Try.underlying42 hi hz0 hz1 hz2 rfl (by decide) (.slice (some ⟨w.heap.size, 0, none⟩) 0 0) 0 [] rfl hm0 a l.length c (u8s l) rfl (by simp) hc0 (u8s_one _) (by unfold maxLen; omega) (by omega) (by simp) ?_; intro v' w1 hown hgrow hv)
    simp only [Nat.zero_add, List.nil_append] at hown
    have hbel : Below w.heap.size w w1 := ((Below.refl w.heap.size w).alloc (Nat.le_refl _) _).grown hgrow (by simp) (by intro k e; simp [Value.ownBlock] at e; omega)
    have hrd := own_dat (w := w) hown
    clear hown hgrow hv
    obtain ⟨A', c', rfl, hd⟩ := hrd
    go_ret
    exact ⟨_, _, rfl, hd, hbel⟩
theorem ownK_any (K : Nat → Prop) (e : En) (A : Option Addr) (c : Nat) (w : World) (h : Rd w K A c (u8s e.data)) (hK : ∀ b, K b → b < w.heap.size) (hn : e.data.length ≤ 100000000) :
    Calls Try.prog 58 #[enA e A c] w fun x w' => ∃ A' c', x = .returned (enA e A' c') ∧ Dat w' (fun b => w.heap.size ≤ b) A' c' e.data ∧ Below w.heap.size w w' := by
  unfold enA enV
  go_enter Try.func58, Try.ntmps58
  go_wp2_with fail
  refine (CloneK_any K A c e.data _ (h.keep (fun b hb => ?_) (fun _ h => h)) hn).mono ?_
  · exact keep2 _ _ _ _ (hK b hb)
  rintro x w1 ⟨A', c', rfl, hr, hb⟩
  have hbe := below2 w (.cells #[.int .i64 e.term, .int .u8 e.kind, .int .i64 e.ver, .int .i64 e.srv, .bool e.good, .slice A e.data.length c] 44) (.cells #[.int .i64 0, .int .u8 0, .int .i64 0, .int .i64 0, .bool false, .slice none 0 0] 44) 0
  have hB1 : Below w.heap.size w w1 := hbe.trans (hb.mono (by simp; omega))
  have b0 : w1.heap[w.heap.size]? = some (.cells #[.int .i64 e.term, .int .u8 e.kind, .int .i64 e.ver, .int .i64 e.srv, .bool e.good, .slice A e.data.length c] 44 (0, 0)) := (hb.block _ (by simp; omega)).trans (heap_alloc2_old w _ _)
  have b1 : w1.heap[w.heap.size + 1]? = some (.cells #[.int .i64 0, .int .u8 0, .int .i64 0, .int .i64 0, .bool false, .slice none 0 0] 44 (0, 0)) := (hb.block _ (by simp)).trans (heap_alloc2_new w _ _)
  clear hb hbe
  have f0 := frozen_blk b0
  have f1 := frozen_blk b1
  obtain ⟨a0, a1, a2, a3, a4, a5⟩ := cells6 b0
  obtain ⟨d0, d1, d2, d3, d4, d5⟩ := cells6 b1
  have B0 := Lib.hid b0
  have B1 := Lib.hid b1
  clear b0 b1
  go_wp2_with fail
  refine bodyPost_ret (v := .agg #[.int .i64 e.term, .int .u8 e.kind, .int .i64 e.ver, .int .i64 e.srv, .bool e.good, .slice A' e.data.length c']) (by simp [results, Try.results58, go_sem, d0, d1, d2, d3, d4, d5]) rfl ⟨A', c', rfl, ?_, ?_⟩
  · refine hr.keep (fun b hb _ => ?_) (by simp [World.setCell]) (fun b hb _ => ?_)
    · have h3 : w.heap.size + 2 ≤ b := by simp at hb; omega
      iterate 7 rw [Below.heap_setCell _ _ _ _ (by show b ≠ _; simp only []; omega)]
    · simp at hb; omega
  · exact ((((((hB1.setCell (Nat.le_refl _) _).setCell (Nat.le_succ _) _).setCell (Nat.le_succ _) _).setCell (Nat.le_succ _) _).setCell (Nat.le_succ _) _).setCell (Nat.le_succ _) _).setCell (Nat.le_succ _) _
end Go.Proofs.Ythfofnfkopnbhaa
namespace Go.Proofs.Ythfofnfkopnbhaa
open Go.RowKit
set_option linter.unusedVariables false
set_option maxRecDepth 100000

/-- The object at p (its first cell v, then ob) holds a row of entries in block g; their bytes lie in blocks of K. -/
structure Lg (w : World) (p g : Nat) (ob : List Value) (ty : TypeId) (K : Nat → Prop) (v : Value) (es : List En) (ds : List (Option Addr × Nat)) : Prop where
  obj : w.heap[p]? = some (.cells (v :: ob).toArray ty (0, 0))
  row : Row w 44 6 v g es.length (rowV es ds)
  len : ds.length = es.length
  ne : g ≠ p
  lt : v.ownBlock = some g → g < w.heap.size
  data : ∀ (i : Nat) (e : En) (d : Option Addr × Nat), es[i]? = some e → ds[i]? = some d → Dat w K d.1 d.2 e.data
  kk : ∀ b, K b → b < w.heap.size ∧ b ≠ p ∧ b ≠ g
theorem Lg.apart {w : World} {p g : Nat} {ob : List Value} {ty : TypeId} {K : Nat → Prop} {v : Value} {es : List En} {ds : List (Option Addr × Nat)} (h : Lg w p g ob ty K v es ds) : some p ≠ v.ownBlock := by
  rcases h.row.2 with ⟨h1, _⟩ | ⟨cap, cur, h1, _⟩
  · rw [h1]; exact fun e => by cases e
  · rw [h1]; exact fun e => h.ne (by injection e with e; exact e.symm)
theorem Lg.plt {w : World} {p g : Nat} {ob : List Value} {ty : TypeId} {K : Nat → Prop} {v : Value} {es : List En} {ds : List (Option Addr × Nat)} (h : Lg w p g ob ty K v es ds) : p < w.heap.size := (Array.getElem?_eq_some_iff.1 h.obj).1
theorem setObj {w : World} {p : Nat} {v v2 : Value} {ob : List Value} {t : TypeId} (h : w.heap[p]? = some (.cells (v :: ob).toArray t (0, 0))) : (w.setCell ⟨p, 0, none⟩ v2).heap[p]? = some (.cells (v2 :: ob).toArray t (0, 0)) := by
  rw [heap_setCell_same _ _ _ _ _ _ h]
  simp
/-- What leaves the log's blocks leaves the log. -/
theorem Lg.keep {w w' : World} {p g : Nat} {ob : List Value} {ty : TypeId} {K : Nat → Prop} {v : Value} {es : List En} {ds : List (Option Addr × Nat)} (h : Lg w p g ob ty K v es ds) (hs : w.heap.size ≤ w'.heap.size)
    (hp : w'.heap[p]? = w.heap[p]?) (hg : v.ownBlock = some g → w'.heap[g]? = w.heap[g]?) (hk : ∀ b, K b → w'.heap[b]? = w.heap[b]?) : Lg w' p g ob ty K v es ds :=
  ⟨hp.trans h.obj, h.row.keep hg, h.len, h.ne, fun e => Nat.lt_of_lt_of_le (h.lt e) hs, fun i e d hi hd => (h.data i e d hi hd).keep (fun b hb _ => hk b hb) hs (fun _ h _ => h), fun b hb => let ⟨h1, h2⟩ := h.kk b hb; ⟨Nat.lt_of_lt_of_le h1 hs, h2⟩⟩
theorem Lg.below {w w' : World} {p g : Nat} {ob : List Value} {ty : TypeId} {K : Nat → Prop} {v : Value} {es : List En} {ds : List (Option Addr × Nat)} (h : Lg w p g ob ty K v es ds) (hb : Below w.heap.size w w') : Lg w' p g ob ty K v es ds :=
  h.keep hb.size (hb.block p h.plt) (fun e => hb.block g (h.lt e)) (fun b hk => hb.block b (h.kk b hk).1)
/-- One entry more. -/
theorem Lg.step {w wr w2 w3 : World} {p g g' g2 n2 cap2 : Nat} {ob : List Value} {ty : TypeId} {K : Nat → Prop} {v' : Value} {es : List En} {ds' : List (Option Addr × Nat)} {x : En} {A' : Option Addr} {c' : Nat} {o : Obj}
    (hL : Lg wr p g' ob ty K v' es ds') (hS : Sv p g w wr) (hg : g' = g ∨ w.heap.size ≤ g') (hb : Below wr.heap.size wr w2) (hr : Dat w2 (fun b => wr.heap.size ≤ b) A' c' x.data)
    (hgr : (w2.alloc o).grownBy w3 v'.ownBlock) (hg2 : g2 = (w2.alloc o).heap.size ∨ g2 = g' ∧ v'.ownBlock = some g') (hlt : g2 < w3.heap.size)
    (hrow : Row w3 44 6 (.slice (some ⟨g2, 0, none⟩) n2 cap2) g2 (es.length + 1) (rowV es ds' ++ enV x A' c')) :
    Lg (w3.setCell ⟨p, 0, none⟩ (.slice (some ⟨g2, 0, none⟩) n2 cap2)) p g2 ob ty (fun b => K b ∨ (wr.heap.size ≤ b ∧ b < w2.heap.size)) (.slice (some ⟨g2, 0, none⟩) n2 cap2) (es ++ [x]) (ds' ++ [(A', c')]) ∧ Sv p g w (w3.setCell ⟨p, 0, none⟩ (.slice (some ⟨g2, 0, none⟩) n2 cap2)) ∧ (g2 = g ∨ w.heap.size ≤ g2) := by
  have hpl : p < wr.heap.size := hL.plt
  have hs2 := hb.size
  have hsa : (w2.alloc o).heap.size = w2.heap.size + 1 := by simp
  have hs3 := hgr.size
  have hge : w.heap.size ≤ wr.heap.size := hS.size
  have hpg : p ≠ g2 := by
    rcases hg2 with h | ⟨h, _⟩
    · rw [h, hsa]; omega
    · rw [h]; exact fun e => hL.ne e.symm
  have old : ∀ b, b < wr.heap.size → b ≠ p → b ≠ g' → (w3.setCell ⟨p, 0, none⟩ (.slice (some ⟨g2, 0, none⟩) n2 cap2)).heap[b]? = wr.heap[b]? := by
    intro b h1 h2 h3
    rw [Below.heap_setCell _ _ _ _ h2, hgr.block b (by omega) ?_, heap_alloc_old w2 _ (by omega), hb.block b h1]
    rcases hL.row.ownB with e | e
    · rw [e]; exact fun h => by cases h
    · rw [e]; exact fun h => h3 (by injection h)
  have new : ∀ b, wr.heap.size ≤ b → b < w2.heap.size → (w3.setCell ⟨p, 0, none⟩ (.slice (some ⟨g2, 0, none⟩) n2 cap2)).heap[b]? = w2.heap[b]? := by
    intro b h1 h2
    rw [Below.heap_setCell _ _ _ _ (by show b ≠ p; omega), hgr.block b (by omega) ?_, heap_alloc_old w2 _ (by omega)]
    rcases hL.row.ownB with e | e
    · rw [e]; exact fun h => by cases h
    · have := hL.lt e
      rw [e]; exact fun h => by injection h with h; omega
  have hob3 : w3.heap[p]? = some (.cells (v' :: ob).toArray ty (0, 0)) := by
    rw [hgr.block p (by omega) hL.apart, heap_alloc_old w2 _ (by omega), hb.block p hpl]
    exact hL.obj
  have hsz : (w3.setCell ⟨p, 0, none⟩ (.slice (some ⟨g2, 0, none⟩) n2 cap2)).heap.size = w3.heap.size := by simp [World.setCell]
  have hg2n : ∀ b, b < wr.heap.size → b ≠ g' → b ≠ g2 := by
    intro b h1 h2 e
    rcases hg2 with h | ⟨h, _⟩
    · rw [hsa] at h; omega
    · exact h2 (e.trans h)
  have hg2m : ∀ b, wr.heap.size ≤ b → b < w2.heap.size → b ≠ g2 := by
    intro b h1 h2 e
    rcases hg2 with h | ⟨h, h'⟩
    · rw [hsa] at h; omega
    · have := hL.lt h'; omega
  refine ⟨⟨setObj hob3, ?_, by simp [hL.len], fun e => hpg e.symm, fun _ => by rw [hsz]; exact hlt, ?_, ?_⟩, ⟨?_, ?_, ?_, by rw [hsz]; omega, fun b h1 h2 h3 => (old b (by omega) h2 ?_).trans (hS.block b h1 h2 h3)⟩, ?_⟩
  · rw [rowV_snoc _ _ _ _ hL.len, List.length_append]
    exact hrow.keep (fun _ => Below.heap_setCell _ _ _ _ (fun e => hpg e.symm))
  · intro i e d hi hd
    have hlen := hL.len
    rcases Nat.lt_or_ge i es.length with h | h
    · rw [List.getElem?_append_left h] at hi
      rw [List.getElem?_append_left (by omega)] at hd
      exact (hL.data i e d hi hd).keep (fun b hb' _ => let ⟨h1, h2, h3⟩ := hL.kk b hb'; old b h1 h2 h3) (by rw [hsz]; omega) (fun b hb' _ => .inl hb')
    · have hi0 : i = es.length := by
        have := (List.getElem?_eq_some_iff.1 hi).1
        simp at this
        omega
      subst hi0
      simp at hi
      rw [← hlen] at hd
      simp at hd
      subst hi
      subst hd
      exact hr.keep (fun b hb' hlt' => new b hb' hlt') (by rw [hsz]; omega) (fun b hb' hlt' => .inr ⟨hb', hlt'⟩)
  · rintro b (hb' | hb')
    · obtain ⟨h1, h2, h3⟩ := hL.kk b hb'
      exact ⟨by rw [hsz]; omega, h2, hg2n b h1 h3⟩
    · exact ⟨by rw [hsz]; omega, by omega, hg2m b hb'.1 hb'.2⟩
  · exact hgr.os.trans (hb.os.trans hS.os)
  · exact hgr.tape.trans (hb.tape.trans hS.tape)
  · exact hgr.output.trans (hb.output.trans hS.output)
  · rcases hg with e | e <;> omega
  · rcases hg2 with h | ⟨h, _⟩
    · right; rw [h, hsa]; omega
    · rw [h]; exact hg

set_option maxRecDepth 100000 in
set_option maxHeartbeats 1000000 in
theorem put_K (K : Nat → Prop) (A : Option Addr) (c : Nat) (ns : List En) (w : World) (p g : Nat) (v : Value) (es : List En) (ds : List (Option Addr × Nat)) (KL : Nat → Prop) (h : Lg w p g [.bool true] 84 KL v es ds)
    (ha : Ents w K A c ns) (hK : ∀ b, K b → But w p g b) (hs : es.length + ns.length ≤ 100000) (hd : ∀ e ∈ ns, e.data.length ≤ 100000000) :
    Calls Try.prog 39 #[.pointer (some ⟨p, 0, none⟩), .slice A ns.length c] w fun x w' => (∃ r, x = .returned r) ∧ ∃ v' g' K' ds', Lg w' p g' [.bool true] 84 K' v' (es ++ ns) ds' ∧ Sv p g w w' ∧ (g' = g ∨ w.heap.size ≤ g') ∧ ∀ b, K' b → KL b ∨ w.heap.size ≤ b := by
  obtain ⟨i0, hi, hz, hz1, hz2⟩ := info_parts info37
  go_enter Try.func39, Try.ntmps39
  go_wp2_with fail
  go_loopw [8] (fun i wr => ∃ k : Nat, k ≤ ns.length ∧ i = .int .i64 k ∧ ∃ v' g' K' ds', Lg wr p g' [.bool true] 84 K' v' (es ++ ns.take k) ds' ∧ Sv p g w wr ∧ (g' = g ∨ w.heap.size ≤ g') ∧ ∀ b, K' b → KL b ∨ w.heap.size ≤ b) (fun i _ => ns.length - (intOf i).toNat)
  case atStart => exact ⟨0, Nat.zero_le _, rfl, v, g, KL, ds, by simpa using h, Sv.refl _ _ _, .inl rfl, fun b hb => .inl hb⟩
  case round =>
    obtain ⟨k, hk, rfl, v', g', K', ds', hL, hS, hg, hKK⟩ := hrel
    by_cases hlt : k < ns.length
    · have d1 : decide ((k : Int) < (ns.length : Int)) = true := decide_eq_true (by omega)
      have ha' : Ents wr K A c ns := ha.keep (fun b hb => let ⟨h1, h2, h3⟩ := hK b hb; hS.block b h1 h2 h3) (fun _ h => h)
      obtain ⟨a, x, D, d, rfl, ka, hx, ca, ra, la, ma⟩ := ha'.at_ hlt
      obtain ⟨a0, a1, a2, a3, a4, a5⟩ := en6 ca
      clear ca
      have hw0 : wr.heap.size = wr.heap.size := rfl
      go_wp2_with fail
      clear a0 a1 a2 a3 a4 a5
      have hbA : Below wr.heap.size wr (wr.alloc (Obj.cells #[Value.int IntKind.i64 x.term, Value.int IntKind.u8 x.kind, Value.int IntKind.i64 x.ver, Value.int IntKind.i64 x.srv, Value.bool x.good, Value.slice D x.data.length d] 44)) := (Below.refl _ _).alloc (Nat.le_refl _) _
      obtain ⟨c0, c1, c2, c3, c4, c5⟩ := cells6 (heap_alloc_new wr (Obj.cells #[Value.int IntKind.i64 x.term, Value.int IntKind.u8 x.kind, Value.int IntKind.i64 x.ver, Value.int IntKind.i64 x.srv, Value.bool x.good, Value.slice D x.data.length d] 44))
      generalize (wr.alloc (Obj.cells #[Value.int IntKind.i64 x.term, Value.int IntKind.u8 x.kind, Value.int IntKind.i64 x.ver, Value.int IntKind.i64 x.srv, Value.bool x.good, Value.slice D x.data.length d] 44)) = wa at *
      have hpl : p < wr.heap.size := (Array.getElem?_eq_some_iff.1 hL.obj).1
      have ob : wa.heap[p]? = some (.cells #[v', .bool true] 84 (0, 0)) := (hbA.block p hpl).trans hL.obj
      have oc : wa.cell? ⟨p, 0, none⟩ = some v' := by rw [cell_of_row wa p 0 _ _ _ ob]; rfl
      have hfx := frozen_blk ob 0
      have hKr : ∀ b, K b → b < wr.heap.size := fun b hb => Nat.lt_of_lt_of_le (hK b hb).1 hS.size
      have hcon := ownK_any K x D d wa.drew (ra.keep (fun b hb => hbA.block b (hKr b hb)) (fun _ h => h)) (fun b hb => Nat.lt_of_lt_of_le (hKr b hb) hbA.size) (hd x (List.mem_of_getElem? hx.out))
      simp only [enA, enV] at hcon
      have rowK : ∀ W : World, (v'.ownBlock = some g' → W.heap[g']? = wa.heap[g']?) → Row W 44 6 v' g' (es ++ ns.take k).length (rowV (es ++ ns.take k) ds') := fun W hW => hL.row.keep (fun e => (hW e).trans (hbA.block g' (hL.lt e)))
      have hln : (es ++ ns.take k).length + 1 ≤ 100000 := by simp; omega
      go_region_law (first
        | (refine step_append_row _ (by rfl) (.tmp 16) (.tmp 19) 34 (by rfl) 44 i0 _ 6 _ Try.underlying34 hi hz hz1 hz2 rfl v' g' _ _ (by rfl) (rowK _ ?_) ⟨w2.heap.size, 0, none⟩ 1 1 (enV x A' c') (by rfl) (by rfl) ?_ ?_ ?_ ?_ (by decide) ?_
           · intro e
             have h3 : g' < wa.heap.size := Nat.lt_of_lt_of_le (hL.lt e) hbA.size
             exact (heap_alloc_old w2 _ (Nat.lt_of_lt_of_le h3 hbo.size)).trans (hbo.block g' h3)
           · exact news_new w2 (enV x A' c') 44
           · exact enV_one x A' c'
           · unfold maxLen; omega
           · omega
           intro v2 w3 g2 hrow2 hgr hv2 hg2 hlt2
           obtain ⟨cap2, rfl⟩ := hrow2.form hv2
           have ob3 : w3.heap[p]? = some (.cells #[v', .bool true] 84 (0, 0)) := (hgr.block p (by simp; exact Nat.lt_succ_of_lt (Array.getElem?_eq_some_iff.1 ob2).1) (hL.apart)).trans ((heap_alloc_old w2 _ (Array.getElem?_eq_some_iff.1 ob2).1).trans ob2)
           have oc3 : w3.cell? ⟨p, 0, none⟩ = some v' := by rw [cell_of_row w3 p 0 _ _ _ ob3]; rfl
           have of3 := frozen_blk ob3 0)
        | (go_simp; go_at_call 58; refine hcon.mono ?_; rintro r w2 ⟨A', c', rfl, hr2, hbo⟩
           have ob2 : w2.heap[p]? = some (.cells #[v', .bool true] 84 (0, 0)) := (hbo.block p (Nat.lt_of_lt_of_le hpl hbA.size)).trans ob
           have oc2 : w2.cell? ⟨p, 0, none⟩ = some v' := by rw [cell_of_row w2 p 0 _ _ _ ob2]; rfl
           have oc2' : ∀ o, (w2.alloc o).cell? ⟨p, 0, none⟩ = some v' := fun o => (World.cell?_of_block (heap_alloc_old w2 o (Array.getElem?_eq_some_iff.1 ob2).1)).trans oc2))
      all_goals
        have hln' : (es ++ ns.take k).length = es.length + k := by simp; omega
        obtain ⟨s1, s2, s3⟩ := hL.step hS hg ((hbA.drew).trans (hbo.mono hbA.size)) (hr2.keep (fun _ _ _ => rfl) (Nat.le_refl _) (fun b hb _ => Nat.le_trans hbA.size hb)) hgr hg2 hlt2 hrow2
        rw [hln'] at s1 s2
        have hK2 : ∀ b, (K' b ∨ (wr.heap.size ≤ b ∧ b < w2.heap.size)) → KL b ∨ w.heap.size ≤ b := fun b hb => hb.elim (hKK b) (fun h => .inr (Nat.le_trans hS.size h.1))
        clear hrow2 hgr hg2 hbo rowK hcon hL hS ob ob2 ob3 oc oc2 oc2' oc3 of3 hfx c0 c1 c2 c3 c4 c5 ha' hlt2
        have ht : es ++ ns.take k ++ [x] = es ++ ns.take (k + 1) := by rw [List.append_assoc, List.take_add_one, hx.out]; rfl
        rw [ht] at s1
        go_wp2_with fail
        go_roundw
        case rel => exact ⟨k + 1, by omega, by go_num, _, _, _, _, s1, s2, s3, hK2⟩
        case measure => simp [intOf]; omega
    · have d1 : decide ((k : Int) < (ns.length : Int)) = false := decide_eq_false (by omega)
      have hk2 : ns.take k = ns := List.take_of_length_le (by omega)
      rw [hk2] at hL
      clear hk2
      go_wp2_with fail
      go_end0
      exact ⟨⟨_, rfl⟩, v', g', K', ds', hL, hS, hg, hKK⟩
end Go.Proofs.Ythfofnfkopnbhaa
