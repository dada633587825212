/- Append of none, too: no program. -/
import Derived.Test.YtenkhbiikecegaaGreatNApp
namespace Go.Proofs.YtenkhbiikecegaaGreat
open Go.RowKit Go.Maps Go.ChangeMaps
set_option linter.unusedVariables false
set_option maxRecDepth 100000

theorem Row.cell0 {w : World} {e : TypeId} {size g n j : Nat} {v u : Value} {xs : List Value} (h : Row w e size v g n xs) (hv : v.ownBlock = some g) (hj : xs[j]? = some u) : w.cell? ⟨g, j, none⟩ = some u := by
  have hadd : (⟨g, 0, none⟩ : Addr).add j = ⟨g, j, none⟩ := by unfold Addr.add; split <;> simp_all
  rw [← hadd]
  exact h.cells (by rw [hv]; simp) j u hj
section
variable {P : Program} (w : World)
/-- Append of none, too, onto a row in a block. -/
theorem run_append_rowZ (t ty e : TypeId) (i : TypeInfo) (z : Value) (size bytes : Nat) (ht : P.underlying t = some (.slice e)) (hi : P.info? e = some i) (hz : i.zero = some z)
    (hsize : i.size = size) (hby : i.bytes = bytes) (hzs : z.cells.size = size)
    (v : Value) (g n : Nat) (xs : List Value) (hown : Row w e size v g n xs) (hv : v.ownBlock = some g)
    (a : Addr) (m c : Nat) (news : List Value) (hl : news.length = m * size) (hnews : ∀ j u, news[j]? = some u → w.cell? (a.add j) = some u) (h1 : ∀ u ∈ news, u.oneCell' = true)
    (h63 : n + m ≤ maxLen) (hbytes : (n + m) * bytes ≤ 140737488355328) :
    ∃ v' w' g', (Builtin.append_ #[t, t] ty #[v, .slice (some a) m c]).run P w = .ok v' w' ∧ Row w' e size v' g' (n + m) (xs ++ news) ∧ w.grownBy w' v.ownBlock ∧ v'.ownBlock = some g' ∧
      (g' = w.heap.size ∨ (g' = g ∧ v.ownBlock = some g)) ∧ g' < w'.heap.size := by
  by_cases hm : 0 < m
  · exact run_append_row w t ty e i z size bytes ht hi hz hsize hby hzs v g n xs hown a m c news hl hnews h1 h63 hbytes hm
  obtain rfl : m = 0 := by omega
  obtain rfl : news = [] := List.eq_nil_of_length_eq_zero (by omega)
  obtain ⟨hxl, ⟨rfl, _⟩ | ⟨cap, cur, rfl, hg, h2, h3, h4, h5⟩⟩ := hown
  · cases hv
  subst hsize
  have hcur : n * i.size ≤ cur.size := by
    have := congrArg List.length h4
    rw [hxl, List.length_take, Array.length_toList] at this
    omega
  have hr := run_append_room (P := P) w t ty e i ht hi g n cap cur hg a 0 c [] (by simp) hnews h1 (by omega) (by simpa using hcur)
  have hlt := (Array.getElem?_eq_some_iff.1 hg).1
  refine ⟨_, _, g, hr, ⟨by simpa using hxl, .inr ⟨cap, cur, rfl, ?_, h2, h3, ?_, h5⟩⟩, ⟨rfl, rfl, rfl, by simp, fun k _ hk => setRow_other w g k _ (fun e => hk (by simp [Value.ownBlock, e]))⟩, rfl, .inr ⟨rfl, rfl⟩, by simpa using hlt⟩
  · rw [setRow_heap w g cur _ e (0, 0) hg]
    simp
  · simpa using h4
theorem step_append_rowZ {ops : Array Oper} {o : Oper} {a : Act} {K : Act → World → Prop} {Q : Exit → Act → World → Prop} {E : Prop} (hgd : o.guard = none) (s x : Operand) (t : TypeId)
    (ho : o.op = .call { callee := .builtin .append, args := #[s, x], argTypes := #[t, t] })
    (e : TypeId) (i : TypeInfo) (z : Value) (size bytes : Nat) (ht : P.underlying t = some (.slice e)) (hi : P.info? e = some i) (hz : i.zero = some z)
    (hsize : i.size = size) (hby : i.bytes = bytes) (hzs : z.cells.size = size)
    (v : Value) (g n : Nat) (xs : List Value) (hs : a.eval s = v) (hown : Row w e size v g n xs) (hv : v.ownBlock = some g)
    (ad : Addr) (m c : Nat) (news : List Value) (hx : a.eval x = .slice (some ad) m c) (hl : news.length = m * size) (hnews : ∀ j u, news[j]? = some u → w.cell? (ad.add j) = some u) (h1 : ∀ u ∈ news, u.oneCell' = true)
    (h63 : n + m ≤ maxLen) (hbytes : (n + m) * bytes ≤ 140737488355328)
    (h : ∀ v' w' g', Row w' e size v' g' (n + m) (xs ++ news) → w.grownBy w' v.ownBlock → v'.ownBlock = some g' → (g' = w.heap.size ∨ (g' = g ∧ v.ownBlock = some g)) → g' < w'.heap.size → K (a.put o.dst v') w') :
    if Region.wanted o (yielded ops a.tmps) = true then Oper.wp P o a w K Q else E := by
  have hw : Region.wanted o (yielded ops a.tmps) = true := by simp [Region.wanted, hgd]
  rw [if_pos hw]
  obtain ⟨v', w', g', hr, h2, h3, h4, h5, h6⟩ := run_append_rowZ (P := P) w t o.type e i z size bytes ht hi hz hsize hby hzs v g n xs hown hv ad m c news hl hnews h1 h63 hbytes
  unfold Oper.wp execOp
  simp only [ho, resolve, invoke, builtin, Sem.run_bind, Sem.run_pure, Result.andThen_ok, List.map_toArray, List.map_cons, List.map_nil, hs, hx, hr]
  exact h v' w' g' h2 h3 h4 h5 h6
end
end Go.Proofs.YtenkhbiikecegaaGreat
