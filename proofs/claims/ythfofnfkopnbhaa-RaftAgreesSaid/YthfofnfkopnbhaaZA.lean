/- raft, the law's world: Pick. raft, the law's world: a row that begins behind its block's head; append onto it. No program. raft, the law's world: letters on their way. raft, the law's world: what is sure. raft, the law's world: append of any number of letters, none too, onto a row that lies in a block. No program. raft, the law's world: agreed. -/
import Derived.Test.YthfofnfkopnbhaaW27
import Derived.Test.YthfofnfkopnbhaaRow
import Derived.Test.YthfofnfkopnbhaaZ15
import Derived.Test.YthfofnfkopnbhaaZ16
import Derived.Test.YthfofnfkopnbhaaZ20
namespace Go.Proofs.Ythfofnfkopnbhaa
open Go.RowKit Go.Maps Go.ChangeMaps
set_option linter.unusedVariables false
set_option linter.unusedSimpArgs false
set_option linter.unusedSectionVars false
set_option maxRecDepth 100000

theorem pick_any (a m : Int) (w : World) (h : 1 ≤ m) (hm : m ≤ 1000000) : Calls Try.prog 7 #[.int .i64 a, .int .i64 m] w fun e w' => ∃ p, e = .returned (.int .i64 p) ∧ 0 ≤ p ∧ p < m ∧ w = w' := by
  have d1 : decide (m < 1) = false := decide_eq_false (by omega)
  have hm0 : ¬ m = 0 := by omega
  have h1 := Int.tmod_lt_of_pos a (show 0 < m by omega)
  have h2 : -m < a.tmod m := by
    have h3 := Int.natAbs_tmod a m
    have h4 := Nat.mod_lt a.natAbs (show 0 < m.natAbs by omega)
    omega
  by_cases hn : a.tmod m < 0
  · have d2 : decide (a.tmod m < 0) = true := decide_eq_true hn
    go_enter Try.func7, Try.ntmps7
    go_wp2_with fail
    go_ret
    exact ⟨_, rfl, by omega, by omega, rfl⟩
  · have d2 : decide (a.tmod m < 0) = false := decide_eq_false hn
    go_enter Try.func7, Try.ntmps7
    go_wp2_with fail
    go_ret
    exact ⟨_, rfl, by omega, by omega, rfl⟩
end Go.Proofs.Ythfofnfkopnbhaa
namespace Go.Proofs.Ythfofnfkopnbhaa
open Go.RowKit
set_option linter.unusedVariables false
set_option maxRecDepth 100000

/-- As Row, from cell o of the block on. -/
def RowO (w : World) (e : TypeId) (size : Nat) (v : Value) (g o n : Nat) (xs : List Value) : Prop :=
  xs.length = n * size ∧ ((v = .slice none 0 0 ∧ n = 0) ∨
    ∃ cap cur, v = .slice (some ⟨g, o, none⟩) n cap ∧ w.heap[g]? = some (.cells cur e (0, 0)) ∧ n ≤ cap ∧ cap ≤ maxLen ∧ o + cap * size ≤ cur.size ∧ (cur.toList.drop o).take (n * size) = xs)
theorem RowO.keep {w w' : World} {e : TypeId} {size g o n : Nat} {v : Value} {xs : List Value} (h : RowO w e size v g o n xs) (hk : v.ownBlock = some g → w'.heap[g]? = w.heap[g]?) : RowO w' e size v g o n xs := by
  refine ⟨h.1, ?_⟩
  rcases h.2 with h0 | ⟨cap, cur, rfl, hg, h1, h2, h3, h4⟩
  · exact .inl h0
  · exact .inr ⟨cap, cur, rfl, (hk rfl).trans hg, h1, h2, h3, h4⟩
theorem RowO.cells {w : World} {e : TypeId} {size g o n : Nat} {v : Value} {xs : List Value} (h : RowO w e size v g o n xs) (hv : v.ownBlock ≠ none) : ∀ j u, xs[j]? = some u → w.cell? ⟨g, o + j, none⟩ = some u := by
  intro j u hu
  rcases h.2 with ⟨rfl, _⟩ | ⟨cap, cur, rfl, hg, _, _, _, htake⟩
  · exact absurd rfl hv
  · rw [cell_of_row w g (o + j) cur e (0, 0) hg]
    rw [← htake, List.getElem?_take] at hu
    split at hu
    · rw [List.getElem?_drop] at hu
      simpa using hu
    · cases hu
/-- A later part of it. -/
theorem RowO.from {w : World} {e : TypeId} {size g o n cap : Nat} {A : Option Addr} {xs : List Value} (h : RowO w e size (.slice A n cap) g o n xs) (k : Nat) (hk : k ≤ n) (hk0 : 0 < n) : RowO w e size (.slice (some ⟨g, o + k * size, none⟩) (n - k) (cap - k)) g (o + k * size) (n - k) (xs.drop (k * size)) := by
  refine ⟨by rw [List.length_drop, h.1, Nat.sub_mul], .inr ?_⟩
  rcases h.2 with ⟨_, h0⟩ | ⟨cap', cur, e', hg, h1, h2, h3, h4⟩
  · omega
  · injection e' with eA _ ec
    subst ec
    refine ⟨cap - k, cur, rfl, hg, by omega, by omega, ?_, ?_⟩
    · rw [Nat.sub_mul]
      have : k * size ≤ cap * size := Nat.mul_le_mul_right _ (by omega)
      omega
    · rw [← h4, List.drop_take, List.drop_drop, Nat.sub_mul]
section
variable {P : Program} (w : World)
theorem run_append_roomO (t ty e : TypeId) (i : TypeInfo) (ht : P.underlying t = some (.slice e)) (hi : P.info? e = some i)
    (g o sLen sCap : Nat) (cur : Array Value) (hg : w.heap[g]? = some (.cells cur e (0, 0)))
    (a : Addr) (m c : Nat) (news : List Value) (hl : news.length = m * i.size) (hnews : ∀ j u, news[j]? = some u → w.cell? (a.add j) = some u) (h1 : ∀ u ∈ news, u.oneCell' = true)
    (hroom : sLen + m ≤ sCap) (hfit : o + sLen * i.size + news.length ≤ cur.size) :
    (Builtin.append_ #[t, t] ty #[.slice (some ⟨g, o, none⟩) sLen sCap, .slice (some a) m c]).run P w =
      .ok (.slice (some ⟨g, o, none⟩) (sLen + m) sCap) (w.setRow g (cur.toList.take (o + sLen * i.size) ++ news ++ cur.toList.drop (o + sLen * i.size + news.length)).toArray) := by
  have hf := run_firstCells_some (P := P) w i.size m a m c news hl hnews
  have hst := run_storeCells_at P g (o + sLen * i.size) e news 0 cur w hg (by simpa using hfit) h1
  simp only [Nat.add_zero] at hst
  have hadd : (⟨g, o, none⟩ : Addr).add (sLen * i.size) = ⟨g, o + sLen * i.size, none⟩ := by unfold Addr.add; split <;> simp_all
  simp [Builtin.append_, run_underlying ht, sizeOf, typeInfo, hi, Builtin.lenOf, hroom, hf, hadd, hst]
/-- THE LAW: at least one element is put behind; the row lies where it was, or in the newest block. -/
theorem run_append_rowO (t ty e : TypeId) (i : TypeInfo) (z : Value) (size bytes : Nat) (ht : P.underlying t = some (.slice e)) (hi : P.info? e = some i) (hz : i.zero = some z)
    (hsize : i.size = size) (hby : i.bytes = bytes) (hzs : z.cells.size = size)
    (v : Value) (g o n : Nat) (xs : List Value) (hown : RowO w e size v g o n xs)
    (a : Addr) (m c : Nat) (news : List Value) (hl : news.length = m * size) (hnews : ∀ j u, news[j]? = some u → w.cell? (a.add j) = some u) (h1 : ∀ u ∈ news, u.oneCell' = true)
    (h63 : n + m ≤ maxLen) (hbytes : (n + m) * bytes ≤ 140737488355328) (hm : 0 < m) :
    ∃ v' w' g' o', (Builtin.append_ #[t, t] ty #[v, .slice (some a) m c]).run P w = .ok v' w' ∧ RowO w' e size v' g' o' (n + m) (xs ++ news) ∧ w.grownBy w' v.ownBlock ∧ v'.ownBlock = some g' ∧
      (g' = w.heap.size ∨ (g' = g ∧ v.ownBlock = some g)) ∧ g' < w'.heap.size := by
  subst hsize
  subst hby
  have hsmall : n + m ≤ 9223372036854775807 := by simp only [maxLen] at h63; omega
  have hlen : (xs ++ news).length = (n + m) * i.size := by rw [List.length_append, hown.1, hl, Nat.add_mul]
  have grown : ∀ (old : Nat) (row : Option Nat),
      RowO (w.drew.alloc (.cells (xs.toArray ++ news.toArray ++ Builtin.zeroCells z.cells (grownCap w (n + m) old e - (n + m))) e)) e i.size
        (.slice (some ⟨w.heap.size, 0, none⟩) (n + m) (grownCap w (n + m) old e)) w.heap.size 0 (n + m) (xs ++ news) ∧
      w.grownBy (w.drew.alloc (.cells (xs.toArray ++ news.toArray ++ Builtin.zeroCells z.cells (grownCap w (n + m) old e - (n + m))) e)) row := by
    intro old row
    have hge := grownCap_ge w (n + m) old e
    refine ⟨⟨hlen, .inr ⟨_, _, rfl, heap_alloc_new w.drew _, hge, grownCap_le_maxLen w (n + m) old e h63, ?_, ?_⟩⟩, ⟨rfl, rfl, rfl, by simp, fun k hk _ => heap_alloc_old w.drew _ hk⟩⟩
    · simp only [Array.size_append, List.size_toArray, size_zeroCells, hzs, hown.1, hl, ← Nat.add_mul]
      have : n + m + (grownCap w (n + m) old e - (n + m)) = grownCap w (n + m) old e := by omega
      rw [this]
      omega
    · simp only [Array.toList_append, List.append_assoc, List.drop_zero]
      rw [← List.append_assoc, ← hlen]
      exact List.take_left
  rcases hown.2 with ⟨rfl, rfl⟩ | ⟨cap, cur, rfl, hg, hnc, hcm, hcs, htake⟩
  · have hx : xs = [] := List.eq_nil_of_length_eq_zero (by simpa using hown.1)
    subst hx
    have hr := run_append_nil (P := P) w t ty e i z ht hi hz a m c news hl hnews hm (by omega) (by have hb := hbytes; simp only [Nat.zero_add] at hb; omega)
    have hgr := grown 0 (Value.ownBlock (.slice none 0 0))
    simp only [Nat.zero_add, List.nil_append, Array.empty_append] at hgr ⊢
    exact ⟨_, _, _, _, hr, hgr.1, hgr.2, rfl, .inl rfl, by simp⟩
  · by_cases hroom : n + m ≤ cap
    · have hmul : (n + m) * i.size ≤ cap * i.size := Nat.mul_le_mul_right _ hroom
      have hfit : o + n * i.size + news.length ≤ cur.size := by rw [hl, Nat.add_assoc, ← Nat.add_mul]; omega
      have hr := run_append_roomO (P := P) w t ty e i ht hi g o n cap cur hg a m c news hl hnews h1 hroom hfit
      refine ⟨_, _, g, o, hr, ⟨hlen, .inr ⟨cap, _, rfl, setRow_heap w g cur _ e _ hg, hroom, hcm, ?_, ?_⟩⟩, ⟨rfl, rfl, rfl, by simp, fun k _ hk => setRow_other w g k _ (fun e => hk (by simp [Value.ownBlock, e]))⟩, rfl, .inr ⟨rfl, rfl⟩, ?_⟩
      · simp only [List.size_toArray, List.length_append, List.length_take, List.length_drop, Array.length_toList]
        omega
      · have e1 : cur.toList.take (o + n * i.size) = cur.toList.take o ++ xs := by
          rw [List.take_add, htake]
        have hol : (cur.toList.take o).length = o := by simp; omega
        simp only [List.append_assoc, e1]
        rw [List.drop_append_of_le_length (by omega), List.drop_of_length_le (by omega), List.nil_append, ← List.append_assoc, ← hlen]
        exact List.take_left
      · have := (Array.getElem?_eq_some_iff.1 hg).1
        simpa using this
    · have holds : ∀ j u, xs[j]? = some u → w.cell? ((⟨g, o, none⟩ : Addr).add j) = some u := by
        intro j u hu
        have := hown.cells (by simp [Value.ownBlock]) j u hu
        rw [show (⟨g, o, none⟩ : Addr).add j = ⟨g, o + j, none⟩ from (by unfold Addr.add; split <;> simp_all)]
        exact this
      have hr := run_append_grow (P := P) w t ty e i z ht hi hz ⟨g, o, none⟩ n cap xs hown.1 holds a m c news hl hnews (by omega) (by omega) (growslice_fits (by omega) hbytes)
      have hgr := grown cap (Value.ownBlock (.slice (some ⟨g, o, none⟩) n cap))
      exact ⟨_, _, _, _, hr, hgr.1, hgr.2, rfl, .inl rfl, by simp⟩
theorem step_append_rowO {ops : Array Oper} {o : Oper} {a : Act} {K : Act → World → Prop} {Q : Exit → Act → World → Prop} {E : Prop} (hgd : o.guard = none) (s x : Operand) (t : TypeId)
    (ho : o.op = .call { callee := .builtin .append, args := #[s, x], argTypes := #[t, t] })
    (e : TypeId) (i : TypeInfo) (z : Value) (size bytes : Nat) (ht : P.underlying t = some (.slice e)) (hi : P.info? e = some i) (hz : i.zero = some z)
    (hsize : i.size = size) (hby : i.bytes = bytes) (hzs : z.cells.size = size)
    (v : Value) (g off n : Nat) (xs : List Value) (hs : a.eval s = v) (hown : RowO w e size v g off n xs)
    (ad : Addr) (m c : Nat) (news : List Value) (hx : a.eval x = .slice (some ad) m c) (hl : news.length = m * size) (hnews : ∀ j u, news[j]? = some u → w.cell? (ad.add j) = some u) (h1 : ∀ u ∈ news, u.oneCell' = true)
    (h63 : n + m ≤ maxLen) (hbytes : (n + m) * bytes ≤ 140737488355328) (hm : 0 < m)
    (h : ∀ v' w' g' o', RowO w' e size v' g' o' (n + m) (xs ++ news) → w.grownBy w' v.ownBlock → v'.ownBlock = some g' → (g' = w.heap.size ∨ (g' = g ∧ v.ownBlock = some g)) → g' < w'.heap.size → K (a.put o.dst v') w') :
    if Region.wanted o (yielded ops a.tmps) = true then Oper.wp P o a w K Q else E := by
  have hw : Region.wanted o (yielded ops a.tmps) = true := by simp [Region.wanted, hgd]
  rw [if_pos hw]
  obtain ⟨v', w', g', o', hr, h2, h3, h4, h5, h6⟩ := run_append_rowO (P := P) w t o.type e i z size bytes ht hi hz hsize hby hzs v g off n xs hown ad m c news hl hnews h1 h63 hbytes hm
  unfold Oper.wp execOp
  simp only [ho, resolve, invoke, builtin, Sem.run_bind, Sem.run_pure, Result.andThen_ok, List.map_toArray, List.map_cons, List.map_nil, hs, hx, hr]
  exact h v' w' g' o' h2 h3 h4 h5 h6
end
end Go.Proofs.Ythfofnfkopnbhaa
namespace Go.Proofs.Ythfofnfkopnbhaa
open Go.RowKit Go.Maps Go.ChangeMaps
set_option linter.unusedVariables false
set_option linter.unusedSimpArgs false
set_option linter.unusedSectionVars false
set_option maxRecDepth 100000

/-- Nothing is put behind. -/
theorem run_append_none {P : Program} (w : World) (t ty e : TypeId) (i : TypeInfo) (ht : P.underlying t = some (.slice e)) (hi : P.info? e = some i) (A B : Option Addr) (n cap c : Nat) (hn : n ≤ cap) :
    (Builtin.append_ #[t, t] ty #[.slice A n cap, .slice B 0 c]).run P w = .ok (.slice A n cap) w := by
  have hf : (Builtin.firstCells i.size 0 (.slice B 0 c)).run P w = .ok #[] w := by
    cases B <;> simp [Builtin.firstCells, loadCells, loadCellsFrom]
  cases A <;> simp [Builtin.append_, run_underlying ht, sizeOf, typeInfo, hi, Builtin.lenOf, hn, hf, storeCells]
/-- Letters, in blocks of which K holds, from some cell of their block on. -/
def LsO (w : World) (K : Nat → Prop) (v : Value) (ls : List (Lt En)) : Prop :=
  ∃ g o ds, RowO w 40 10 v g o ls.length (rowL ls ds) ∧ ds.length = ls.length ∧ (v.ownBlock = some g → K g) ∧ ∀ (i : Nat) (l : Lt En) (d : Option Addr × Nat), ls[i]? = some l → ds[i]? = some d → Ents w K d.1 d.2 l.ents
theorem LsO.keep {w w' : World} {K K' : Nat → Prop} {v : Value} {ls : List (Lt En)} (h : LsO w K v ls) (hk : ∀ b, K b → w'.heap[b]? = w.heap[b]?) (hK : ∀ b, K b → K' b) : LsO w' K' v ls := by
  obtain ⟨g, o, ds, h1, h2, h3, h4⟩ := h
  exact ⟨g, o, ds, h1.keep (fun e => hk g (h3 e)), h2, fun e => hK g (h3 e), fun i l d hi hd => (h4 i l d hi hd).keep hk hK⟩
theorem LsO.form {w : World} {K : Nat → Prop} {v : Value} {ls : List (Lt En)} (h : LsO w K v ls) : ∃ A cap, v = .slice A ls.length cap ∧ ls.length ≤ cap ∧ cap ≤ maxLen := by
  obtain ⟨g, o, ds, h1, _⟩ := h
  rcases h1.2 with ⟨e, e2⟩ | ⟨cap, cur, e, _, h3, h4, _⟩
  · rw [e2]; exact ⟨_, _, e, Nat.le_refl _, by decide⟩
  · exact ⟨_, _, e, h3, h4⟩
/-- The letters from k on. -/
theorem rowL_drop : ∀ (k : Nat) (ls : List (Lt En)) (ds : List (Option Addr × Nat)), ds.length = ls.length → (rowL ls ds).drop (k * 10) = rowL (ls.drop k) (ds.drop k) := by
  intro k
  induction k with
  | zero => intro ls ds _; simp
  | succ k ih =>
    intro ls ds h
    cases ls with
    | nil => cases ds with
      | nil => simp [rowL]
      | cons _ _ => simp at h
    | cons l ls => cases ds with
      | nil => simp at h
      | cons d ds =>
        simp only [rowL, List.drop_succ_cons]
        rw [← ih ls ds (by simpa using h), show (k + 1) * 10 = 10 + k * 10 by omega, ← List.drop_drop]
        congr 1
theorem LsO.from {w : World} {K : Nat → Prop} {A : Option Addr} {n cap : Nat} {ls : List (Lt En)} (h : LsO w K (.slice A n cap) ls) (k : Nat) (hk : k < ls.length) : ∃ a, A = some a ∧ LsO w K (.slice (some (a.add (k * 10))) (ls.length - k) (cap - k)) (ls.drop k) := by
  obtain ⟨g, o, ds, h1, h2, h3, h4⟩ := h
  obtain ⟨A', cap', e, _⟩ := LsO.form ⟨g, o, ds, h1, h2, h3, h4⟩
  injection e with e1 e2 e3
  subst e1 e2 e3
  have h5 := h1.from k (by omega) (by omega)
  rcases h1.2 with ⟨e, e2⟩ | ⟨cap', cur, e, _⟩
  · omega
  injection e with e1 _ e3
  subst e1 e3
  refine ⟨_, rfl, g, o + k * 10, ds.drop k, ?_, by simp [h2], fun _ => h3 rfl, fun i l d hi hd => h4 (k + i) l d (by simpa using hi) (by simpa using hd)⟩
  rw [rowL_drop k ls ds h2] at h5
  rw [show (⟨g, o, none⟩ : Addr).add (k * 10) = ⟨g, o + k * 10, none⟩ from (by unfold Addr.add; split <;> simp_all)]
  rw [List.length_drop]
  exact h5
end Go.Proofs.Ythfofnfkopnbhaa
namespace Go.Proofs.Ythfofnfkopnbhaa
open Go.RowKit Go.Maps Go.ChangeMaps
set_option linter.unusedVariables false
set_option linter.unusedSimpArgs false
set_option linter.unusedSectionVars false
set_option maxRecDepth 100000

/-- Entries in a row of their own; their bytes in blocks of which K holds. -/
def SuAt (w : World) (K : Nat → Prop) (v : Value) (su : List En) : Prop :=
  ∃ g ds, Row w 44 6 v g su.length (rowV su ds) ∧ ds.length = su.length ∧ (v.ownBlock = some g → ¬ K g) ∧
    ∀ (i : Nat) (e : En) (d : Option Addr × Nat), su[i]? = some e → ds[i]? = some d → Rd w K d.1 d.2 (u8s e.data) ∧ e.data.length ≤ d.2 ∧ d.2 ≤ maxLen
theorem SuAt.keep {w w' : World} {K K' : Nat → Prop} {v : Value} {su : List En} (h : SuAt w K v su) (hr : ∀ b, v.ownBlock = some b → w'.heap[b]? = w.heap[b]? ∧ ¬ K' b) (hk : ∀ b, K b → w'.heap[b]? = w.heap[b]?) (hK : ∀ b, K b → K' b) : SuAt w' K' v su := by
  obtain ⟨g, ds, h1, h2, h3, h4⟩ := h
  exact ⟨g, ds, h1.keep (fun e => (hr g e).1), h2, fun e => (hr g e).2, fun i e d hi hd => ⟨(h4 i e d hi hd).1.keep hk hK, (h4 i e d hi hd).2⟩⟩
theorem SuAt.form {w : World} {K : Nat → Prop} {v : Value} {su : List En} (h : SuAt w K v su) : ∃ A cap, v = .slice A su.length cap ∧ su.length ≤ cap ∧ cap ≤ maxLen := by
  obtain ⟨g, ds, h1, _⟩ := h
  rcases h1.2 with ⟨e, e2⟩ | ⟨cap, cur, e, _, h3, h4, _⟩
  · rw [e2]; exact ⟨_, _, e, Nat.le_refl _, by decide⟩
  · exact ⟨_, _, e, h3, h4⟩
theorem SuAt.at_ {w : World} {K : Nat → Prop} {v : Value} {su : List En} (h : SuAt w K v su) {k : Nat} {e : En} (hk : su[k]? = some e) :
    ∃ g cap D d, v = .slice (some ⟨g, 0, none⟩) su.length cap ∧ (∀ j, j < 6 → w.cell? ⟨g, k * 6 + j, none⟩ = (enV e D d)[j]?) ∧ Rd w K D d (u8s e.data) ∧ e.data.length ≤ d ∧ d ≤ maxLen := by
  obtain ⟨g, ds, h1, h2, h3, h4⟩ := h
  have hlt : k < su.length := (List.getElem?_eq_some_iff.1 hk).1
  obtain ⟨d, hd⟩ : ∃ d, ds[k]? = some d := ⟨_, List.getElem?_eq_getElem (by omega)⟩
  rcases h1.2 with ⟨_, e0⟩ | ⟨cap, cur, rfl, _⟩
  · omega
  refine ⟨g, cap, d.1, d.2, rfl, fun j hj => ?_, h4 k e d hk hd⟩
  have hc := h1.cells (by simp [Value.ownBlock]) (k * 6 + j)
  have hg := rowV_get su ds k e d hk hd j hj
  have hj2 : ∃ u, (enV e d.1 d.2)[j]? = some u := ⟨_, List.getElem?_eq_getElem (by simp [enV]; omega)⟩
  obtain ⟨u, hu⟩ := hj2
  have := hc u (hg.trans hu)
  rw [show (⟨g, 0, none⟩ : Addr).add (k * 6 + j) = ⟨g, k * 6 + j, none⟩ from (by unfold Addr.add; split <;> simp_all)] at this
  rw [this, hu]
/-- One more, put behind. -/
theorem SuAt.snoc {w w' : World} {K : Nat → Prop} {v v' : Value} {su : List En} {e : En} {D : Option Addr} {d : Nat} {g' : Nat} {g : Nat} {ds : List (Option Addr × Nat)} (h2 : ds.length = su.length)
    (h4 : ∀ (i : Nat) (e : En) (d : Option Addr × Nat), su[i]? = some e → ds[i]? = some d → Rd w K d.1 d.2 (u8s e.data) ∧ e.data.length ≤ d.2 ∧ d.2 ≤ maxLen)
    (hr : Row w' 44 6 v' g' (su.length + 1) (rowV su ds ++ enV e D d)) (hn : ¬ K g') (hk : ∀ b, K b → w'.heap[b]? = w.heap[b]?) (he : Rd w K D d (u8s e.data)) (hd : e.data.length ≤ d) (hm : d ≤ maxLen) : SuAt w' K v' (su ++ [e]) := by
  refine ⟨g', ds ++ [(D, d)], ?_, by simp [h2], fun _ => hn, fun i x y hi hy => ?_⟩
  · rw [rowV_snoc e (D, d) su ds h2, List.length_append]
    exact hr
  · rcases Nat.lt_or_ge i su.length with h | h
    · rw [List.getElem?_append_left h] at hi
      rw [List.getElem?_append_left (by omega)] at hy
      exact ⟨(h4 i x y hi hy).1.keep hk (fun _ h => h), (h4 i x y hi hy).2⟩
    · rw [List.getElem?_append_right h] at hi
      rw [List.getElem?_append_right (by omega)] at hy
      have h0 : i - su.length = 0 := by
        have := (List.getElem?_eq_some_iff.1 hi).1
        simp at this
        omega
      have h0' : i - ds.length = 0 := by omega
      rw [h0] at hi
      rw [h0'] at hy
      injection hi with hi
      injection hy with hy
      subst hi hy
      exact ⟨he.keep hk (fun _ h => h), hd, hm⟩
end Go.Proofs.Ythfofnfkopnbhaa
namespace Go.Proofs.Ythfofnfkopnbhaa
open Go.RowKit
set_option linter.unusedVariables false
set_option maxRecDepth 100000

theorem run_append_rowO0 {P : Program} (w : World) (t ty e : TypeId) (i : TypeInfo) (z : Value) (size bytes : Nat) (ht : P.underlying t = some (.slice e)) (hi : P.info? e = some i) (hz : i.zero = some z)
    (hsize : i.size = size) (hby : i.bytes = bytes) (hzs : z.cells.size = size)
    (A : Option Addr) (cap g o n : Nat) (xs : List Value) (hown : RowO w e size (.slice A n cap) g o n xs) (hA : A = some ⟨g, o, none⟩) (hg : g < w.heap.size)
    (B : Option Addr) (m c : Nat) (news : List Value) (hl : news.length = m * size) (hB : 0 < m → ∃ ad, B = some ad ∧ ∀ j u, news[j]? = some u → w.cell? (ad.add j) = some u) (h1 : ∀ u ∈ news, u.oneCell' = true)
    (h63 : n + m ≤ maxLen) (hbytes : (n + m) * bytes ≤ 140737488355328) :
    ∃ w' g' o' cap', (Builtin.append_ #[t, t] ty #[.slice A n cap, .slice B m c]).run P w = .ok (.slice (some ⟨g', o', none⟩) (n + m) cap') w' ∧ RowO w' e size (.slice (some ⟨g', o', none⟩) (n + m) cap') g' o' (n + m) (xs ++ news) ∧ w.grownBy w' (some g) ∧
      (g' = w.heap.size ∨ g' = g) ∧ g' < w'.heap.size := by
  subst hA
  by_cases hm : m = 0
  · subst hm
    have hx : news = [] := List.eq_nil_of_length_eq_zero (by simpa using hl)
    subst hx
    have hn : n ≤ cap := by
      rcases hown.2 with ⟨e, e2⟩ | ⟨cap', cur, e, _, h3, _⟩
      · cases e
      · injection e with _ _ e; omega
    have hr := run_append_none (P := P) w t ty e i ht hi (some ⟨g, o, none⟩) B n cap c hn
    exact ⟨w, g, o, cap, hr, by rw [List.append_nil]; exact hown, ⟨rfl, rfl, rfl, Nat.le_refl _, fun _ _ _ => rfl⟩, .inr rfl, hg⟩
  · obtain ⟨ad, rfl, hnews⟩ := hB (by omega)
    obtain ⟨v', w', g', o', hr, h2, h3, h4, h5, h6⟩ := run_append_rowO (P := P) w t ty e i z size bytes ht hi hz hsize hby hzs _ g o n xs hown ad m c news hl hnews h1 h63 hbytes (by omega)
    obtain ⟨cap', rfl⟩ : ∃ cap', v' = .slice (some ⟨g', o', none⟩) (n + m) cap' := by
      rcases h2.2 with ⟨q, _⟩ | ⟨cap', cur, q, _⟩
      · rw [q] at h4; cases h4
      · exact ⟨cap', q⟩
    exact ⟨w', g', o', cap', hr, h2, h3, h5.imp (fun x => x) And.left, h6⟩
theorem step_append_rowO0 {P : Program} (w : World) {ops : Array Oper} {o : Oper} {a : Act} {K : Act → World → Prop} {Q : Exit → Act → World → Prop} {E : Prop} (hgd : o.guard = none) (s x : Operand) (t : TypeId)
    (ho : o.op = .call { callee := .builtin .append, args := #[s, x], argTypes := #[t, t] })
    (e : TypeId) (i : TypeInfo) (z : Value) (size bytes : Nat) (ht : P.underlying t = some (.slice e)) (hi : P.info? e = some i) (hz : i.zero = some z)
    (hsize : i.size = size) (hby : i.bytes = bytes) (hzs : z.cells.size = size)
    (A : Option Addr) (cap g off n : Nat) (xs : List Value) (hs : a.eval s = .slice A n cap) (hown : RowO w e size (.slice A n cap) g off n xs) (hA : A = some ⟨g, off, none⟩) (hg : g < w.heap.size)
    (B : Option Addr) (m c : Nat) (news : List Value) (hx : a.eval x = .slice B m c) (hl : news.length = m * size) (hB : 0 < m → ∃ ad, B = some ad ∧ ∀ j u, news[j]? = some u → w.cell? (ad.add j) = some u) (h1 : ∀ u ∈ news, u.oneCell' = true)
    (h63 : n + m ≤ maxLen) (hbytes : (n + m) * bytes ≤ 140737488355328)
    (h : ∀ w' g' o' cap', RowO w' e size (.slice (some ⟨g', o', none⟩) (n + m) cap') g' o' (n + m) (xs ++ news) → w.grownBy w' (some g) → (g' = w.heap.size ∨ g' = g) → g' < w'.heap.size → K (a.put o.dst (.slice (some ⟨g', o', none⟩) (n + m) cap')) w') :
    if Region.wanted o (yielded ops a.tmps) = true then Oper.wp P o a w K Q else E := by
  have hw : Region.wanted o (yielded ops a.tmps) = true := by simp [Region.wanted, hgd]
  rw [if_pos hw]
  obtain ⟨w', g', o', cap', hr, h2, h3, h5, h6⟩ := run_append_rowO0 (P := P) w t o.type e i z size bytes ht hi hz hsize hby hzs A cap g off n xs hown hA hg B m c news hl hB h1 h63 hbytes
  unfold Oper.wp execOp
  simp only [ho, resolve, invoke, builtin, Sem.run_bind, Sem.run_pure, Result.andThen_ok, List.map_toArray, List.map_cons, List.map_nil, hs, hx, hr]
  exact h w' g' o' cap' h2 h3 h5 h6
end Go.Proofs.Ythfofnfkopnbhaa
namespace Go.Proofs.Ythfofnfkopnbhaa
open Go.RowKit Go.Maps Go.ChangeMaps
set_option linter.unusedVariables false
set_option linter.unusedSimpArgs false
set_option linter.unusedSectionVars false
set_option maxRecDepth 100000

/-- What is sure behind k rounds. -/
def sureL (su es : List En) (k : Nat) : List En := su ++ (es.take k).drop su.length
theorem sureL_len (su es : List En) (k : Nat) (h : k ≤ es.length) : (sureL su es k).length = max su.length k := by
  unfold sureL
  simp
  omega
theorem sureL_lo (su es : List En) (k : Nat) (h : k ≤ su.length) : sureL su es k = su := by
  unfold sureL
  rw [List.drop_of_length_le (by simp; omega), List.append_nil]
theorem sureL_hi (su es : List En) (k : Nat) (h : su.length ≤ k) (e : En) (hk : es[k]? = some e) : sureL su es (k + 1) = sureL su es k ++ [e] := by
  unfold sureL
  have hlt := (List.getElem?_eq_some_iff.1 hk).1
  rw [List.take_add_one, hk, List.append_assoc]
  congr 1
  rw [List.drop_append_of_le_length (by simp; omega)]
  rfl
/-- The law's world: a block of eight cells; the logs' row; what is sure. -/
structure AgI (w0 w : World) (WB lb : Nat) (N s : Nat) (cs : List Value) (sv0 : Value) (A : Option Addr) (c : Nat) (es : List En) (KE : Nat → Prop) (sv : Value) (su : List En) : Prop where
  wb : Bk w WB 36 (cs.set 7 sv)
  lg : w.cell? ⟨lb, s, none⟩ = some (.slice A es.length c)
  en : Ents w KE A c es
  su : SuAt w KE sv su
  ag : Ag (fun b => b ≠ WB ∧ sv0.ownBlock ≠ some b) w0 w
  ow : ∀ b, sv.ownBlock = some b → (sv0.ownBlock = some b ∨ w0.heap.size ≤ b) ∧ b < w.heap.size ∧ b ≠ WB ∧ b ≠ lb
  ke : ∀ b, KE b → b < w0.heap.size ∧ b ≠ WB
  lw : lb ≠ WB
theorem AgI.c4 {w0 w : World} {WB lb N s : Nat} {cs : List Value} {sv0 sv : Value} {A : Option Addr} {c : Nat} {es : List En} {KE : Nat → Prop} {su : List En} (h : AgI w0 w WB lb N s cs sv0 A c es KE sv su) (hc : cs[4]? = some (.slice (some ⟨lb, 0, none⟩) N N)) : w.cell? ⟨WB, 4, none⟩ = some (.slice (some ⟨lb, 0, none⟩) N N) := by
  rw [h.wb.cell 4, List.getElem?_set_ne (by omega)]
  exact hc
theorem AgI.c7 {w0 w : World} {WB lb N s : Nat} {cs : List Value} {sv0 sv : Value} {A : Option Addr} {c : Nat} {es : List En} {KE : Nat → Prop} {su : List En} (h : AgI w0 w WB lb N s cs sv0 A c es KE sv su) (hc : cs.length = 8) : w.cell? ⟨WB, 7, none⟩ = some sv := by
  rw [h.wb.cell 7, List.getElem?_set_self (by omega)]
theorem AgI.below {w0 w w' : World} {WB lb N s : Nat} {cs : List Value} {sv0 sv : Value} {A : Option Addr} {c : Nat} {es : List En} {KE : Nat → Prop} {su : List En} (h : AgI w0 w WB lb N s cs sv0 A c es KE sv su) (hb : Below w.heap.size w w') : AgI w0 w' WB lb N s cs sv0 A c es KE sv su := by
  have hs := h.ag.size
  have hk : ∀ b, KE b → w'.heap[b]? = w.heap[b]? := fun b hb' => hb.block b (by have := (h.ke b hb').1; omega)
  exact ⟨h.wb.below hb h.wb.lt, (World.cell?_of_block (hb.block lb (World.block_lt_of_cell? w _ h.lg))).trans h.lg, h.en.keep hk (fun _ h => h), h.su.keep (fun b e => ⟨hb.block b (h.ow b e).2.1, by obtain ⟨g, ds, h1, _, h3, _⟩ := h.su; obtain ⟨rfl, _⟩ := h1.own' e; exact h3 e⟩) hk (fun _ h => h), ⟨hb.os.trans h.ag.os, hb.tape.trans h.ag.tape, hb.output.trans h.ag.output, Nat.le_trans hs hb.size, fun b h1 h2 => (hb.block b (by omega)).trans (h.ag.block b h1 h2)⟩, fun b e => ⟨(h.ow b e).1, Nat.lt_of_lt_of_le (h.ow b e).2.1 hb.size, (h.ow b e).2.2⟩, h.ke, h.lw⟩
theorem AgI.snoc {w0 w w3 : World} {WB lb N s : Nat} {cs : List Value} {sv0 sv : Value} {A : Option Addr} {c : Nat} {es : List En} {KE : Nat → Prop} {su : List En} (h : AgI w0 w WB lb N s cs sv0 A c es KE sv su) {o : Obj} {e : En} {D : Option Addr} {d g g2 n2 cap2 : Nat} {ds : List (Option Addr × Nat)}
    (h2 : ds.length = su.length) (h4 : ∀ (i : Nat) (e : En) (d : Option Addr × Nat), su[i]? = some e → ds[i]? = some d → Rd w KE d.1 d.2 (u8s e.data) ∧ e.data.length ≤ d.2 ∧ d.2 ≤ maxLen)
    (he : Rd w KE D d (u8s e.data)) (hd : e.data.length ≤ d) (hm : d ≤ maxLen)
    (hgr : (w.drew.alloc o).grownBy w3 sv.ownBlock) (hg2 : g2 = (w.drew.alloc o).heap.size ∨ g2 = g ∧ sv.ownBlock = some g) (hlt : g2 < w3.heap.size)
    (hrow : Row w3 44 6 (.slice (some ⟨g2, 0, none⟩) n2 cap2) g2 (su.length + 1) (rowV su ds ++ enV e D d)) :
    AgI w0 (w3.setCell ⟨WB, 7, none⟩ (.slice (some ⟨g2, 0, none⟩) n2 cap2)) WB lb N s cs sv0 A c es KE (.slice (some ⟨g2, 0, none⟩) n2 cap2) (su ++ [e]) := by
  have hs := h.ag.size
  have hs3 := hgr.size
  have hsA : (w.drew.alloc o).heap.size = w.heap.size + 1 := by simp
  have hnK : ∀ b, sv.ownBlock = some b → ¬ KE b := fun b e => by
    obtain ⟨g, ds, h1, _, h3, _⟩ := h.su
    obtain ⟨rfl, _⟩ := h1.own' e
    exact h3 e
  have hsz : (w3.setCell ⟨WB, 7, none⟩ (.slice (some ⟨g2, 0, none⟩) n2 cap2)).heap.size = w3.heap.size := by simp [World.setCell]
  have hWB := h.wb.lt
  have hlb := World.block_lt_of_cell? w _ h.lg
  have keep3 : ∀ b, b < w.heap.size → sv.ownBlock ≠ some b → w3.heap[b]? = w.heap[b]? := fun b h1 h2 => (hgr.block b (by omega) (fun e => h2 e.symm)).trans (heap_alloc_old w.drew o h1)
  have keep : ∀ b, b < w.heap.size → sv.ownBlock ≠ some b → b ≠ WB → (w3.setCell ⟨WB, 7, none⟩ (.slice (some ⟨g2, 0, none⟩) n2 cap2)).heap[b]? = w.heap[b]? := fun b h1 h2 h3 => (Below.heap_setCell _ _ _ _ h3).trans (keep3 b h1 h2)
  have hkK : ∀ b, KE b → (w3.setCell ⟨WB, 7, none⟩ (.slice (some ⟨g2, 0, none⟩) n2 cap2)).heap[b]? = w.heap[b]? := fun b hb => keep b (by have := (h.ke b hb).1; omega) (fun e => hnK b e hb) (h.ke b hb).2
  have hg : (sv0.ownBlock = some g2 ∨ w0.heap.size ≤ g2) ∧ g2 ≠ WB ∧ g2 ≠ lb ∧ ¬ KE g2 := by
    rcases hg2 with e | ⟨rfl, e⟩
    · exact ⟨.inr (by omega), by omega, by have : lb < w.heap.size := hlb; omega, fun hk => by have := (h.ke _ hk).1; omega⟩
    · exact ⟨(h.ow _ e).1, (h.ow _ e).2.2.1, (h.ow _ e).2.2.2, hnK _ e⟩
  refine ⟨?_, ?_, h.en.keep hkK (fun _ h => h), ?_, ⟨hgr.os.trans h.ag.os, hgr.tape.trans h.ag.tape, hgr.output.trans h.ag.output, by omega, fun b h1 h2 => (keep b (by omega) (fun e => ?_) h2.1).trans (h.ag.block b h1 h2)⟩, ?_, h.ke, h.lw⟩
  · have h1 : Bk w3 WB 36 (cs.set 7 sv) := (keep3 WB hWB (fun e => (h.ow _ e).2.2.1 rfl)).trans h.wb
    have h5 := h1.set 7 (.slice (some ⟨g2, 0, none⟩) n2 cap2)
    rw [List.set_set] at h5
    exact h5
  · exact (World.cell?_of_block (keep lb hlb (fun e => (h.ow _ e).2.2.2 rfl) h.lw)).trans h.lg
  · exact SuAt.snoc (v := sv) (w := w) (w' := w3.setCell ⟨WB, 7, none⟩ (.slice (some ⟨g2, 0, none⟩) n2 cap2)) (g := g) h2 h4 (hrow.keep (fun _ => Below.heap_setCell _ _ _ _ hg.2.1)) hg.2.2.2 hkK he hd hm
  · rcases (h.ow b e).1 with e | e
    · exact h2.2 e
    · omega
  · intro b e
    injection e with e
    subst e
    exact ⟨hg.1, by rw [hsz]; exact hlt, hg.2.1, hg.2.2.1⟩
/-- What a round of agreed reads. -/
abbrev SAg (w : World) (WB lb N s k : Nat) (sg : Nat) (sl scap : Nat) (a : Addr) (el c : Nat) (x : En) (D D' : Option Addr) (d d' : Nat) : Prop :=
  w.cell? ⟨WB, 4, none⟩ = some (.slice (some ⟨lb, 0, none⟩) N N) ∧ w.cell? ⟨WB, 7, none⟩ = some (.slice (some ⟨sg, 0, none⟩) sl scap) ∧ w.cell? ⟨lb, s, none⟩ = some (.slice (some a) el c) ∧
  w.cell? (a.add (k * 6)) = some (.int .i64 x.term) ∧ w.cell? ⟨(a.add (k * 6)).block, (a.add (k * 6)).off + 1, none⟩ = some (.int .u8 x.kind) ∧ w.cell? ⟨(a.add (k * 6)).block, (a.add (k * 6)).off + 2, none⟩ = some (.int .i64 x.ver) ∧ w.cell? ⟨(a.add (k * 6)).block, (a.add (k * 6)).off + 3, none⟩ = some (.int .i64 x.srv) ∧ w.cell? ⟨(a.add (k * 6)).block, (a.add (k * 6)).off + 4, none⟩ = some (.bool x.good) ∧ w.cell? ⟨(a.add (k * 6)).block, (a.add (k * 6)).off + 5, none⟩ = some (.slice D' x.data.length d') ∧
  w.cell? ⟨sg, k * 6, none⟩ = some (.int .i64 x.term) ∧ w.cell? ⟨sg, k * 6 + 1, none⟩ = some (.int .u8 x.kind) ∧ w.cell? ⟨sg, k * 6 + 2, none⟩ = some (.int .i64 x.ver) ∧ w.cell? ⟨sg, k * 6 + 3, none⟩ = some (.int .i64 x.srv) ∧ w.cell? ⟨sg, k * 6 + 4, none⟩ = some (.bool x.good) ∧ w.cell? ⟨sg, k * 6 + 5, none⟩ = some (.slice D x.data.length d)
theorem SAg.below {w w' : World} {WB lb N s k sg sl scap : Nat} {a : Addr} {el c : Nat} {x : En} {D D' : Option Addr} {d d' : Nat} (h : SAg w WB lb N s k sg sl scap a el c x D D' d d') {B : Nat} (hb : Below B w w') (hB : B = w.heap.size) : SAg w' WB lb N s k sg sl scap a el c x D D' d d' := by
  subst hB
  have t : ∀ {p : Addr} {v : Value}, w.cell? p = some v → w'.cell? p = some v := fun {p v} hp => (World.cell?_of_block (hb.block p.block (World.block_lt_of_cell? w _ hp))).trans hp
  obtain ⟨h1, h2, h3, h4, h5, h6, h7, h8, h9, h10, h11, h12, h13, h14, h15⟩ := h
  exact ⟨t h1, t h2, t h3, t h4, t h5, t h6, t h7, t h8, t h9, t h10, t h11, t h12, t h13, t h14, t h15⟩
set_option maxHeartbeats 2000000 in
theorem agreed_any {w : World} {WB lb N : Nat} (s C : Nat) {cs : List Value} {sv : Value} {A : Option Addr} {c : Nat} {es : List En} {KE : Nat → Prop} {su : List En} (h : AgI w w WB lb N s cs sv A c es KE sv su) (h4 : cs[4]? = some (.slice (some ⟨lb, 0, none⟩) N N)) (h8 : cs.length = 8)
    (hs : s < N) (hN : N ≤ 100) (hC : C ≤ es.length) (hes : es.length ≤ 100000) (hsl : su.length ≤ 100000) (hag : ∀ i, i < C → i < su.length → su[i]? = es[i]?) :
    Calls Try.prog 41 #[.pointer (some ⟨WB, 0, none⟩), .int .i64 s, .int .i64 C] w fun x w' => x = .returned (.bool true) ∧ ∃ sv', AgI w w' WB lb N s cs sv A c es KE sv' (sureL su es C) := by
  have c4 := h.c4 h4
  have lg := h.lg
  have HI := Lib.hid h
  have hs1 : ((s : Int) < (N : Int)) := by omega
  have d0 : decide ((es.length : Int) < (C : Int)) = false := decide_eq_false (by omega)
  clear h
  go_enter Try.func41, Try.ntmps41
  go_wp2_with fail
  clear c4 lg
  generalize Value.bool (decide (es.length < C)) = q0
  go_loopw [7] (fun i wr => ∃ (k : Nat) (sv' : Value), k ≤ C ∧ i = .int .i64 k ∧ AgI w wr WB lb N s cs sv A c es KE sv' (sureL su es k)) (fun i _ => C - (intOf i).toNat)
  case atStart => exact ⟨0, sv, Nat.zero_le _, rfl, by rw [sureL_lo _ _ _ (Nat.zero_le _)]; exact HI.out⟩
  case round =>
    obtain ⟨k, sv', hk, rfl, hI⟩ := hrel
    have c4 := hI.c4 h4
    have c7 := hI.c7 h8
    have lg := hI.lg
    obtain ⟨sA, scap, hsv, hsc, hsm⟩ := hI.su.form
    subst hsv
    have hlen := sureL_len su es k (by omega)
    rw [hlen] at c7
    have hmx : ((max su.length k : Nat) : Int) = max (su.length : Int) k := by omega
    by_cases hlt : k < C
    · have d1 : decide ((k : Int) < (C : Int)) = true := decide_eq_true (by omega)
      by_cases hks : k < su.length
      · rw [show max su.length k = su.length by omega] at c7
        have d2 : decide ((k : Int) < (su.length : Int)) = true := decide_eq_true (by omega)
        obtain ⟨x, hx⟩ : ∃ x, es[k]? = some x := ⟨_, List.getElem?_eq_getElem (by omega)⟩
        have hxs : (sureL su es k)[k]? = some x := by rw [sureL_lo _ _ _ (by omega), hag k hlt hks, hx]
        obtain ⟨sg, scap', D, d, e9, hcs, hr1, hl1, hm1⟩ := hI.su.at_ hxs
        injection e9 with e9 _ _
        subst e9
        obtain ⟨a, x', D', d', rfl, _, hx', hce, hr2, hl2, hm2⟩ := hI.en.at_ (k := k) (by omega)
        obtain rfl : x = x' := by have := hx'.out; rw [hx] at this; injection this
        obtain ⟨a0, a1, a2, a3, a4, a5⟩ := en6 hce
        have b0 := hcs 0 (by omega)
        have b1 := hcs 1 (by omega)
        have b2 := hcs 2 (by omega)
        have b3 := hcs 3 (by omega)
        have b4 := hcs 4 (by omega)
        have b5 := hcs 5 (by omega)
        simp only [enV, List.getElem?_cons_zero, List.getElem?_cons_succ] at b0 b1 b2 b3 b4 b5
        have hKE : ∀ b, KE b → b < wr.heap.size := fun b hb => Nat.lt_of_lt_of_le (hI.ke b hb).1 hI.ag.size
        have HI2 := Lib.hid hI
        have HS := SameEntry_any KE KE x x D D' d d' wr.drew hr1 hr2 hKE hKE (Nat.le_trans hl1 (Nat.le_trans hm1 (by decide))) (Nat.le_trans hl2 (Nat.le_trans hm2 (by decide)))
        simp only [enA, enV, decide_true] at HS
        clear hI hce hcs hr1 hr2 hx hxs hx' hKE
        have hke : k < es.length := by omega
        have hq : SAg wr WB lb N s k sg su.length scap a es.length c x D D' d d' := ⟨c4, c7, lg, a0, a1, a2, a3, a4, a5, b0, b1, b2, b3, b4, b5⟩
        go_wp2_with fail
        refine wp_region_held_drew (S := fun w' => SAg w' WB lb N s k sg su.length scap a es.length c x D D' d d') (by kernel_rfl) (hq.below (Below.refl _ wr).drew rfl) (fun hS => ?_)
        clear c4 c7 lg a0 a1 a2 a3 a4 a5 b0 b1 b2 b3 b4 b5
        refine wpAnyH_take (i := 0) (v := ?_) rfl (by kernel_rfl) (by kernel_rfl) (by kernel_rfl) (fun _ _ _ h => h) (Or.inl ⟨by rfl, ?_⟩) hS ?_
        rotate_left 1
        · intro w' hSw
          go_simp <;> with_reducible rfl
        try simp only [List.getElem_toArray, List.getElem_cons_zero, List.getElem_cons_succ, Act.put, List.setIfInBounds_toArray, List.set_cons_zero, List.set_cons_succ]
        refine wpAnyH_take (i := 1) (v := ?_) rfl (by kernel_rfl) (by kernel_rfl) (by kernel_rfl) (fun _ _ _ h => h) (Or.inl ⟨by rfl, ?_⟩) hS ?_
        rotate_left 1
        · intro w' hSw
          go_simp <;> with_reducible rfl
        try simp only [List.getElem_toArray, List.getElem_cons_zero, List.getElem_cons_succ, Act.put, List.setIfInBounds_toArray, List.set_cons_zero, List.set_cons_succ]
        refine wpAnyH_take (i := 2) (v := ?_) rfl (by kernel_rfl) (by kernel_rfl) (by kernel_rfl) (fun _ _ _ h => h) (Or.inl ⟨by rfl, ?_⟩) hS ?_
        rotate_left 1
        · intro w' hSw
          go_simp <;> with_reducible rfl
        try simp only [List.getElem_toArray, List.getElem_cons_zero, List.getElem_cons_succ, Act.put, List.setIfInBounds_toArray, List.set_cons_zero, List.set_cons_succ]
        refine wpAnyH_take (i := 3) (v := ?_) rfl (by kernel_rfl) (by kernel_rfl) (by kernel_rfl) (fun _ _ _ h => h) (Or.inl ⟨by rfl, ?_⟩) hS ?_
        rotate_left 1
        · intro w' hSw
          go_simp <;> with_reducible rfl
        try simp only [List.getElem_toArray, List.getElem_cons_zero, List.getElem_cons_succ, Act.put, List.setIfInBounds_toArray, List.set_cons_zero, List.set_cons_succ]
        refine wpAnyH_take (i := 4) (v := ?_) rfl (by kernel_rfl) (by kernel_rfl) (by kernel_rfl) (fun _ _ _ h => h) (Or.inl ⟨by rfl, ?_⟩) hS ?_
        rotate_left 1
        · intro w' hSw
          go_simp <;> with_reducible rfl
        try simp only [List.getElem_toArray, List.getElem_cons_zero, List.getElem_cons_succ, Act.put, List.setIfInBounds_toArray, List.set_cons_zero, List.set_cons_succ]
        refine wpAnyH_take (i := 5) (v := ?_) rfl (by kernel_rfl) (by kernel_rfl) (by kernel_rfl) (fun _ _ _ h => h) (Or.inl ⟨by rfl, ?_⟩) hS ?_
        rotate_left 1
        · intro w' hSw
          go_simp <;> with_reducible rfl
        try simp only [List.getElem_toArray, List.getElem_cons_zero, List.getElem_cons_succ, Act.put, List.setIfInBounds_toArray, List.set_cons_zero, List.set_cons_succ]
        refine wpAnyH_take (i := 6) (v := ?_) rfl (by kernel_rfl) (by kernel_rfl) (by kernel_rfl) (fun _ _ _ h => h) (Or.inl ⟨by rfl, ?_⟩) hS ?_
        rotate_left 1
        · intro w' hSw
          go_simp <;> with_reducible rfl
        try simp only [List.getElem_toArray, List.getElem_cons_zero, List.getElem_cons_succ, Act.put, List.setIfInBounds_toArray, List.set_cons_zero, List.set_cons_succ]
        refine wpAnyH_take (i := 7) (v := ?_) rfl (by kernel_rfl) (by kernel_rfl) (by kernel_rfl) (fun _ _ _ h => h) (Or.inl ⟨by rfl, ?_⟩) hS ?_
        rotate_left 1
        · intro w' hSw
          go_simp <;> with_reducible rfl
        try simp only [List.getElem_toArray, List.getElem_cons_zero, List.getElem_cons_succ, Act.put, List.setIfInBounds_toArray, List.set_cons_zero, List.set_cons_succ]
        refine wpAnyH_take (i := 8) (v := ?_) rfl (by kernel_rfl) (by kernel_rfl) (by kernel_rfl) (fun _ _ _ h => h) (Or.inl ⟨by go_simp, ?_⟩) hS ?_
        rotate_left 1
        · intro w' hSw
          go_simp <;> with_reducible rfl
        try simp only [List.getElem_toArray, List.getElem_cons_zero, List.getElem_cons_succ, Act.put, List.setIfInBounds_toArray, List.set_cons_zero, List.set_cons_succ]
        refine wpAnyH_take (i := 9) (v := ?_) rfl (by kernel_rfl) (by kernel_rfl) (by kernel_rfl) (fun _ _ _ h => h) (Or.inl ⟨by go_simp, ?_⟩) hS ?_
        rotate_left 1
        · intro w' hSw
          go_simp <;> with_reducible rfl
        try simp only [List.getElem_toArray, List.getElem_cons_zero, List.getElem_cons_succ, Act.put, List.setIfInBounds_toArray, List.set_cons_zero, List.set_cons_succ]
        refine wpAnyH_take (i := 10) (v := ?_) rfl (by kernel_rfl) (by kernel_rfl) (by kernel_rfl) (fun _ _ _ h => h) (Or.inl ⟨by go_simp, ?_⟩) hS ?_
        rotate_left 1
        · intro w' hSw
          go_simp <;> with_reducible rfl
        try simp only [List.getElem_toArray, List.getElem_cons_zero, List.getElem_cons_succ, Act.put, List.setIfInBounds_toArray, List.set_cons_zero, List.set_cons_succ]
        refine wpAnyH_take (i := 11) (v := ?_) rfl (by kernel_rfl) (by kernel_rfl) (by kernel_rfl) (fun _ _ _ h => h) (Or.inl ⟨by go_simp, ?_⟩) hS ?_
        rotate_left 1
        · intro w' hSw
          go_simp <;> with_reducible rfl
        try simp only [List.getElem_toArray, List.getElem_cons_zero, List.getElem_cons_succ, Act.put, List.setIfInBounds_toArray, List.set_cons_zero, List.set_cons_succ]
        refine wpAnyH_take (i := 12) (v := ?_) rfl (by kernel_rfl) (by kernel_rfl) (by kernel_rfl) (fun _ _ _ h => h) (Or.inl ⟨by go_simp, ?_⟩) hS ?_
        rotate_left 1
        · intro w' hSw
          go_simp <;> with_reducible rfl
        try simp only [List.getElem_toArray, List.getElem_cons_zero, List.getElem_cons_succ, Act.put, List.setIfInBounds_toArray, List.set_cons_zero, List.set_cons_succ]
        refine wpAnyH_take (i := 13) (v := ?_) rfl (by kernel_rfl) (by kernel_rfl) (by kernel_rfl) (fun _ _ _ h => h) (Or.inl ⟨by go_simp, ?_⟩) hS ?_
        rotate_left 1
        · intro w' hSw
          go_simp <;> with_reducible rfl
        try simp only [List.getElem_toArray, List.getElem_cons_zero, List.getElem_cons_succ, Act.put, List.setIfInBounds_toArray, List.set_cons_zero, List.set_cons_succ]
        refine wpAnyH_take (i := 14) (v := ?_) rfl (by kernel_rfl) (by kernel_rfl) (by kernel_rfl) (fun _ _ _ h => h) (Or.inl ⟨by go_simp, ?_⟩) hS ?_
        rotate_left 1
        · intro w' hSw
          go_simp <;> with_reducible rfl
        try simp only [List.getElem_toArray, List.getElem_cons_zero, List.getElem_cons_succ, Act.put, List.setIfInBounds_toArray, List.set_cons_zero, List.set_cons_succ]
        refine wpAnyH_take (i := 15) (v := ?_) rfl (by kernel_rfl) (by kernel_rfl) (by kernel_rfl) (fun _ _ _ h => h) (Or.inl ⟨by go_simp, ?_⟩) hS ?_
        rotate_left 1
        · intro w' hSw
          go_simp <;> with_reducible rfl
        try simp only [List.getElem_toArray, List.getElem_cons_zero, List.getElem_cons_succ, Act.put, List.setIfInBounds_toArray, List.set_cons_zero, List.set_cons_succ]
        refine wpAnyH_take (i := 16) (v := ?_) rfl (by kernel_rfl) (by kernel_rfl) (by kernel_rfl) (fun _ _ _ h => h) (Or.inl ⟨by go_simp, ?_⟩) hS ?_
        rotate_left 1
        · intro w' hSw
          go_simp <;> with_reducible rfl
        try simp only [List.getElem_toArray, List.getElem_cons_zero, List.getElem_cons_succ, Act.put, List.setIfInBounds_toArray, List.set_cons_zero, List.set_cons_succ]
        refine wpAnyH_take (i := 17) (v := ?_) rfl (by kernel_rfl) (by kernel_rfl) (by kernel_rfl) (fun _ _ _ h => h) (Or.inl ⟨by go_simp, ?_⟩) hS ?_
        rotate_left 1
        · intro w' hSw
          go_simp <;> with_reducible rfl
        try simp only [List.getElem_toArray, List.getElem_cons_zero, List.getElem_cons_succ, Act.put, List.setIfInBounds_toArray, List.set_cons_zero, List.set_cons_succ]
        refine wpAnyH_take (i := 18) (v := ?_) rfl (by kernel_rfl) (by kernel_rfl) (by kernel_rfl) (fun _ _ _ h => h) (Or.inl ⟨by go_simp, ?_⟩) hS ?_
        rotate_left 1
        · intro w' hSw
          go_simp <;> with_reducible rfl
        try simp only [List.getElem_toArray, List.getElem_cons_zero, List.getElem_cons_succ, Act.put, List.setIfInBounds_toArray, List.set_cons_zero, List.set_cons_succ]
        refine wpAnyH_take (i := 19) (v := ?_) rfl (by kernel_rfl) (by kernel_rfl) (by kernel_rfl) (fun _ _ _ h => h) (Or.inl ⟨by go_simp, ?_⟩) hS ?_
        rotate_left 1
        · intro w' hSw
          go_simp <;> with_reducible rfl
        try simp only [List.getElem_toArray, List.getElem_cons_zero, List.getElem_cons_succ, Act.put, List.setIfInBounds_toArray, List.set_cons_zero, List.set_cons_succ]
        refine wpAnyH_take (i := 20) (v := ?_) rfl (by kernel_rfl) (by kernel_rfl) (by kernel_rfl) (fun _ _ _ h => h) (Or.inl ⟨by go_simp, ?_⟩) hS ?_
        rotate_left 1
        · intro w' hSw
          go_simp <;> with_reducible rfl
        try simp only [List.getElem_toArray, List.getElem_cons_zero, List.getElem_cons_succ, Act.put, List.setIfInBounds_toArray, List.set_cons_zero, List.set_cons_succ]
        refine wpAnyH_take (i := 21) (v := ?_) rfl (by kernel_rfl) (by kernel_rfl) (by kernel_rfl) (fun _ _ _ h => h) (Or.inl ⟨by go_simp, ?_⟩) hS ?_
        rotate_left 1
        · intro w' hSw
          go_simp <;> with_reducible rfl
        try simp only [List.getElem_toArray, List.getElem_cons_zero, List.getElem_cons_succ, Act.put, List.setIfInBounds_toArray, List.set_cons_zero, List.set_cons_succ]
        refine wpAnyH_take (i := 22) (v := ?_) rfl (by kernel_rfl) (by kernel_rfl) (by kernel_rfl) (fun _ _ _ h => h) (Or.inl ⟨by go_simp, ?_⟩) hS ?_
        rotate_left 1
        · intro w' hSw
          go_simp <;> with_reducible rfl
        try simp only [List.getElem_toArray, List.getElem_cons_zero, List.getElem_cons_succ, Act.put, List.setIfInBounds_toArray, List.set_cons_zero, List.set_cons_succ]
        refine wpAnyH_take (i := 23) (v := ?_) rfl (by kernel_rfl) (by kernel_rfl) (by kernel_rfl) (fun _ _ _ h => h) (Or.inl ⟨by go_simp, ?_⟩) hS ?_
        rotate_left 1
        · intro w' hSw
          go_simp <;> with_reducible rfl
        try simp only [List.getElem_toArray, List.getElem_cons_zero, List.getElem_cons_succ, Act.put, List.setIfInBounds_toArray, List.set_cons_zero, List.set_cons_succ]
        refine wpAnyH_take (i := 24) (v := ?_) rfl (by kernel_rfl) (by kernel_rfl) (by kernel_rfl) (fun _ _ _ h => h) (Or.inl ⟨by go_simp, ?_⟩) hS ?_
        rotate_left 1
        · intro w' hSw
          go_simp <;> with_reducible rfl
        try simp only [List.getElem_toArray, List.getElem_cons_zero, List.getElem_cons_succ, Act.put, List.setIfInBounds_toArray, List.set_cons_zero, List.set_cons_succ]
        refine wpAnyH_ready (rs := [25]) (by kernel_rfl) (by simp) (AllReadyH.cons rfl (fun K hK => ?_) AllReadyH.nil)
        go_simp
        (with_reducible refine HS.mono ?_)
        rintro _ w2 ⟨rfl, hb2⟩
        have HB2 := Lib.hid ((Below.refl wr.heap.size wr).drew.trans hb2)
        go_simp
        refine hK _ _ (SAg.below hS hb2 rfl) (fun hS => ?_)
        clear hK K HS hb2
        try simp only [List.getElem_toArray, List.getElem_cons_zero, List.getElem_cons_succ, Act.put, List.setIfInBounds_toArray, List.set_cons_zero, List.set_cons_succ]
        try simp only [List.getElem_toArray, List.getElem_cons_zero, List.getElem_cons_succ, Act.put, List.setIfInBounds_toArray, List.set_cons_zero, List.set_cons_succ]
        refine wpAnyH_take (i := 26) (v := ?_) rfl (by kernel_rfl) (by kernel_rfl) (by kernel_rfl) (fun _ _ _ h => h) (Or.inl ⟨by go_simp, ?_⟩) hS ?_
        rotate_left 1
        · intro w' hSw
          go_simp <;> with_reducible rfl
        try simp only [List.getElem_toArray, List.getElem_cons_zero, List.getElem_cons_succ, Act.put, List.setIfInBounds_toArray, List.set_cons_zero, List.set_cons_succ]
        refine wpAnyH_take (i := 27) (v := ?_) rfl (by kernel_rfl) (by kernel_rfl) (by kernel_rfl) (fun _ _ _ h => h) (Or.inl ⟨by rfl, ?_⟩) hS ?_
        rotate_left 1
        · intro w' hSw
          go_simp <;> with_reducible rfl
        try simp only [List.getElem_toArray, List.getElem_cons_zero, List.getElem_cons_succ, Act.put, List.setIfInBounds_toArray, List.set_cons_zero, List.set_cons_succ]
        refine wpAnyH_done (by kernel_rfl) ?_ _
        obtain ⟨c4, c7, lg, -⟩ := hS
        go_wp2_with fail
        go_roundw
        case rel => exact ⟨k + 1, _, by omega, by go_num, by rw [show sureL su es (k + 1) = sureL su es k by rw [sureL_lo _ _ _ (by omega), sureL_lo _ _ _ (by omega)]]; exact HI2.out.below HB2.out⟩
        case measure => simp [intOf]; omega
      · rw [show max su.length k = k by omega] at c7
        have d2 : decide ((k : Int) < (k : Int)) = false := decide_eq_false (by omega)
        have hks : su.length ≤ k := by omega
        rw [show max su.length k = k by omega] at hlen
        have HN : Hid (∀ q, AgI w (wr.drewN q) WB lb N s cs sv A c es KE (.slice sA (sureL su es k).length scap) (sureL su es k)) := Lib.hid (fun q => hI.below ⟨rfl, rfl, rfl, Nat.le_refl _, fun _ _ => rfl⟩)
        clear hI c4 lg
        go_wp2_with fail
        go_quiet (fail)
        go_wp2_with fail
        have hI := HN.out nq
        generalize wr.drewN nq = wq at *
        clear c7 HN
        have c4 := hI.c4 h4
        have c7 := hI.c7 h8
        have lg := hI.lg
        rw [hlen] at c7
        obtain ⟨a, x, D', d', rfl, _, hx', hce, hr2, hl2, hm2⟩ := hI.en.at_ (k := k) (by omega)
        obtain ⟨a0, a1, a2, a3, a4, a5⟩ := en6 hce
        obtain ⟨g, ds, hrow, hds, hgk, hdat⟩ := hI.su
        have HI2 := Lib.hid hI
        have hWB := hI.wb.lt
        have ff : wq.frozen? ⟨WB, 7, none⟩ = false := hI.wb.frozen 7
        have hgb : ∀ b, (Value.slice sA (sureL su es k).length scap).ownBlock = some b → b < wq.heap.size := fun b e => (hI.ow b e).2.1
        have hgW : ∀ b, (Value.slice sA (sureL su es k).length scap).ownBlock = some b → b ≠ WB := fun b e => (hI.ow b e).2.2.1
        clear hI hce
        have hke : k < es.length := by omega
        have hrl := hrow.1
        rw [hlen] at hrow hgb hgW hrl
        obtain ⟨i0, hi, hz, hz1, hz2⟩ := info_parts info37
        have c7' : ∀ o, (wq.alloc o).cell? ⟨WB, 7, none⟩ = some (.slice sA k scap) := fun o => (World.cell?_of_block (heap_alloc_old wq o hWB)).trans c7
        have HW := Lib.hid hWB
        have HX := Lib.hid hx'
        have HR2 := Lib.hid hr2
        have HD := Lib.hid hdat
        clear hWB hx' hr2 hdat
        go_region_law (first
          | (refine step_append_row _ (by rfl) (.tmp 62) (.tmp 73) 34 (by rfl) 44 i0 _ 6 _ Try.underlying34 hi hz hz1 hz2 rfl (.slice sA k scap) g k _ (by rfl) (hrow.keep (fun e => ?_)) ⟨wq.heap.size, 0, none⟩ 1 1 (enV x D' d') (by rfl) (by rfl) ?_ ?_ ?_ ?_ (by decide) ?_
             · exact heap_alloc_old _ _ (hgb g e)
             · exact news_new wq.drew (enV x D' d') 44
             · exact enV_one _ _ _
             · unfold maxLen; omega
             · omega
             intro v2 w3 g2 hrow2 hgr hv2 hg2 hlt2
             obtain ⟨cap2, rfl⟩ := hrow2.form hv2
             have ob3 := (hgr.block WB (by simp; exact Nat.lt_succ_of_lt HW.out) (fun e => hgW WB e.symm rfl)).trans ((heap_alloc_old wq.drew _ HW.out).trans HI2.out.wb)
             have oc3 := (cell_of_row w3 WB 7 _ _ _ ob3).trans (by rw [List.getElem?_toArray, List.getElem?_set_self (by omega)])
             have of3 : w3.frozen? ⟨WB, 7, none⟩ = false := frozen_blk ob3 7))
        all_goals
          go_wp2_with fail
          go_roundw
          case rel =>
            have hsn := HI2.out.snoc (g := g) hds HD.out HR2.out hl2 hm2 (by rw [hlen]; exact hgr) (by rw [hlen]; exact hg2) hlt2 (by rw [hlen]; exact hrow2)
            exact ⟨k + 1, _, by omega, by go_num, by rw [sureL_hi _ _ _ hks x HX.out]; exact hsn⟩
          case measure => simp [intOf]; omega
    · have d1 : decide ((k : Int) < (C : Int)) = false := decide_eq_false (by omega)
      have hkC : k = C := by omega
      subst hkC
      have HI2 := Lib.hid hI
      clear hI
      go_wp2_with fail
      go_ret
      exact ⟨rfl, _, HI2.out⟩
end Go.Proofs.Ythfofnfkopnbhaa
