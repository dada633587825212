/- append of one element to a row of one-cell elements, the whole capacity known: of no program. -/
import Derived.Test.YtenkhbiikecegaaGreatNSt
namespace Go.Proofs.YtenkhbiikecegaaGreat
open Go.RowKit Go.Maps Go.ChangeMaps
set_option linter.unusedVariables false
set_option maxRecDepth 100000

/-- A row of one-cell elements, with all its capacity. -/
def RowX (w : World) (e : TypeId) (A : Option Addr) (c g : Nat) (xs : List Value) : Prop :=
  (A = none ∧ c = 0 ∧ xs = []) ∨ (A = some ⟨g, 0, none⟩ ∧ c ≤ maxLen ∧ ∃ ext, Bk w g e (xs ++ ext) ∧ (xs ++ ext).length = c)
theorem RowX.row {w : World} {e : TypeId} {A : Option Addr} {c g : Nat} {xs : List Value} (h : RowX w e A c g xs) : Row w e 1 (.slice A xs.length c) g xs.length xs := by
  rcases h with ⟨rfl, rfl, rfl⟩ | ⟨rfl, hm, ext, hb, hl⟩
  · exact Row.nil _ _ _ _
  · refine ⟨by simp, .inr ⟨c, _, rfl, hb, ?_, hm, by simp, fun _ => by simpa using hl⟩⟩
    simp at hl; omega
theorem RowX.keep {w w' : World} {e : TypeId} {A : Option Addr} {c g : Nat} {xs : List Value} (h : RowX w e A c g xs) (hk : A ≠ none → w'.heap[g]? = w.heap[g]?) : RowX w' e A c g xs := by
  rcases h with h | ⟨rfl, hm, ext, hb, hl⟩
  · exact .inl h
  · exact .inr ⟨rfl, hm, ext, (hk (by simp)).trans hb, hl⟩
section
variable {P : Program} (w : World)
theorem run_append_x (t ty e : TypeId) (i : TypeInfo) (z : Value) (bytes : Nat) (ht : P.underlying t = some (.slice e)) (hi : P.info? e = some i) (hz : i.zero = some z)
    (hsize : i.size = 1) (hby : i.bytes = bytes) (hzs : z.cells.size = 1)
    (A : Option Addr) (c g : Nat) (xs : List Value) (hown : RowX w e A c g xs)
    (a : Addr) (u : Value) (hu : w.cell? (a.add 0) = some u) (h1 : u.oneCell' = true)
    (h63 : xs.length + 1 ≤ maxLen) (hbytes : (xs.length + 1) * bytes ≤ 140737488355328) :
    ∃ c' w' g', (Builtin.append_ #[t, t] ty #[.slice A xs.length c, .slice (some a) 1 1]).run P w = .ok (.slice (some ⟨g', 0, none⟩) (xs.length + 1) c') w' ∧ RowX w' e (some ⟨g', 0, none⟩) c' g' (xs ++ [u]) ∧ w.grownBy w' (Value.slice A xs.length c).ownBlock ∧
      (g' = w.heap.size ∨ (g' = g ∧ A = some ⟨g, 0, none⟩)) ∧ g' < w'.heap.size := by
  subst hby
  have hsmall : xs.length + 1 ≤ 9223372036854775807 := by simp only [maxLen] at h63; omega
  have hl : [u].length = 1 * i.size := by rw [hsize]; rfl
  have hnews : ∀ j u', [u][j]? = some u' → w.cell? (a.add j) = some u' := by
    intro j u' hu'
    cases j with
    | zero => simp at hu'; subst hu'; exact hu
    | succ j => simp at hu'
  have h1' : ∀ u' ∈ [u], u'.oneCell' = true := by simpa using h1
  have grown : ∀ (old : Nat) (row : Option Nat),
      RowX (w.drew.alloc (.cells (xs.toArray ++ [u].toArray ++ Builtin.zeroCells z.cells (grownCap w (xs.length + 1) old e - (xs.length + 1))) e)) e (some ⟨w.heap.size, 0, none⟩) (grownCap w (xs.length + 1) old e) w.heap.size (xs ++ [u]) ∧
      w.grownBy (w.drew.alloc (.cells (xs.toArray ++ [u].toArray ++ Builtin.zeroCells z.cells (grownCap w (xs.length + 1) old e - (xs.length + 1))) e)) row := by
    intro old row
    have hge := grownCap_ge w (xs.length + 1) old e
    refine ⟨.inr ⟨rfl, grownCap_le_maxLen w (xs.length + 1) old e h63, (Builtin.zeroCells z.cells (grownCap w (xs.length + 1) old e - (xs.length + 1))).toList, ?_, ?_⟩, ⟨rfl, rfl, rfl, by simp, fun k hk _ => heap_alloc_old w.drew _ hk⟩⟩
    · have := heap_alloc_new w.drew (.cells (xs.toArray ++ [u].toArray ++ Builtin.zeroCells z.cells (grownCap w (xs.length + 1) old e - (xs.length + 1))) e)
      unfold Bk
      rw [show w.heap.size = w.drew.heap.size from rfl, this]
      congr 2
      apply Array.ext'
      simp
    · simp only [List.length_append, List.length_singleton, Array.length_toList, size_zeroCells, hzs]
      omega
  rcases hown with ⟨rfl, rfl, rfl⟩ | ⟨rfl, hm, ext, hb, hc⟩
  · have hr := run_append_nil (P := P) w t ty e i z ht hi hz a 1 1 [u] hl hnews (by omega) (by omega) (by have hb := hbytes; simp only [List.length_nil, Nat.zero_add] at hb; omega)
    have hgr := grown 0 (Value.ownBlock (.slice none 0 0))
    simp only [List.length_nil, Nat.zero_add, List.nil_append, Array.empty_append] at hgr ⊢
    exact ⟨_, _, _, hr, hgr.1, hgr.2, .inl rfl, by simp⟩
  · have hlen : xs.length ≤ c := by simp at hc; omega
    by_cases hroom : xs.length + 1 ≤ c
    · have hcs : (xs ++ ext).toArray.size = c := by simpa using hc
      have hfit : xs.length * i.size + [u].length ≤ (xs ++ ext).toArray.size := by rw [hsize, hcs]; simpa using hroom
      have hr := run_append_room (P := P) w t ty e i ht hi g xs.length c (xs ++ ext).toArray hb a 1 1 [u] hl hnews h1' hroom hfit
      obtain ⟨y, ext', rfl⟩ : ∃ y ext', ext = y :: ext' := by
        cases ext with
        | nil => simp at hc; omega
        | cons y l => exact ⟨y, l, rfl⟩
      refine ⟨_, _, g, hr, .inr ⟨rfl, hm, ext', ?_, by simpa using hc⟩, ⟨rfl, rfl, rfl, by simp, fun k _ hk => setRow_other w g k _ (fun e => hk (by simp [Value.ownBlock, e]))⟩, .inr ⟨rfl, rfl⟩, ?_⟩
      · have := setRow_heap w g (xs ++ y :: ext').toArray (((xs ++ y :: ext').take (xs.length * i.size) ++ [u] ++ (xs ++ y :: ext').drop (xs.length * i.size + [u].length)).toArray) e (0, 0) hb
        unfold Bk
        rw [this]
        simp [hsize]
      · have := hb.lt
        simpa using this
    · have holds := (RowX.row (.inr ⟨rfl, hm, ext, hb, hc⟩ : RowX w e (some ⟨g, 0, none⟩) c g xs)).cells (by simp [Value.ownBlock])
      have hr := run_append_grow (P := P) w t ty e i z ht hi hz ⟨g, 0, none⟩ xs.length c xs (by rw [hsize]; simp) holds a 1 1 [u] hl hnews (by omega) (by omega) (growslice_fits (by omega) hbytes)
      have hgr := grown c (Value.ownBlock (.slice (some ⟨g, 0, none⟩) xs.length c))
      exact ⟨_, _, _, hr, hgr.1, hgr.2, .inl rfl, by simp⟩
/-- .. at a step of a region that draws its order. -/
theorem step_append_x {ops : Array Oper} {o : Oper} {a : Act} {K : Act → World → Prop} {Q : Exit → Act → World → Prop} {E : Prop} (hgd : o.guard = none) (s x : Operand) (t : TypeId)
    (ho : o.op = .call { callee := .builtin .append, args := #[s, x], argTypes := #[t, t] })
    (e : TypeId) (i : TypeInfo) (z : Value) (bytes : Nat) (ht : P.underlying t = some (.slice e)) (hi : P.info? e = some i) (hz : i.zero = some z)
    (hsize : i.size = 1) (hby : i.bytes = bytes) (hzs : z.cells.size = 1)
    (A : Option Addr) (c g : Nat) (xs : List Value) (hs : a.eval s = .slice A xs.length c) (hown : RowX w e A c g xs)
    (ad : Addr) (u : Value) (hx : a.eval x = .slice (some ad) 1 1) (hu : w.cell? (ad.add 0) = some u) (h1 : u.oneCell' = true)
    (h63 : xs.length + 1 ≤ maxLen) (hbytes : (xs.length + 1) * bytes ≤ 140737488355328)
    (h : ∀ c' w' g', RowX w' e (some ⟨g', 0, none⟩) c' g' (xs ++ [u]) → w.grownBy w' (Value.slice A xs.length c).ownBlock → (g' = w.heap.size ∨ (g' = g ∧ A = some ⟨g, 0, none⟩)) → g' < w'.heap.size → K (a.put o.dst (.slice (some ⟨g', 0, none⟩) (xs.length + 1) c')) w') :
    if Region.wanted o (yielded ops a.tmps) = true then Oper.wp P o a w K Q else E := by
  have hw : Region.wanted o (yielded ops a.tmps) = true := by simp [Region.wanted, hgd]
  rw [if_pos hw]
  obtain ⟨c', w', g', hr, h2, h3, h4, h5⟩ := run_append_x (P := P) w t o.type e i z bytes ht hi hz hsize hby hzs A c g xs hown ad u hu h1 h63 hbytes
  unfold Oper.wp execOp
  simp only [ho, resolve, invoke, builtin, Sem.run_bind, Sem.run_pure, Result.andThen_ok, List.map_toArray, List.map_cons, List.map_nil, hs, hx, hr]
  exact h c' w' g' h2 h3 h4 h5
end
end Go.Proofs.YtenkhbiikecegaaGreat
