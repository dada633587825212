/- net: cut. -/
import Derived.Test.YtenkhbiikecegaaGreatNDel
namespace Go.Proofs.YtenkhbiikecegaaGreat
open Go.RowKit Go.Maps Go.ChangeMaps
set_option linter.unusedVariables false
set_option linter.unusedSimpArgs false
set_option maxRecDepth 100000

section
variable {P : Program} {w : World}
theorem step_look {ops : Array Oper} {o : Oper} {a : Act} {K : Act → World → Prop} {Q : Exit → Act → World → Prop} {E : Prop} (hgd : o.guard = none) (t : TypeId) (m k : Operand) (ho : o.op = .lookup t m k false) {mv kv v : Value} {w' : World} (hm : a.eval m = mv) (hk : a.eval k = kv) (hr : (Instr.lookup t mv kv false).run P w = .ok v w') (h : K (a.put o.dst v) w') :
    if Region.wanted o (yielded ops a.tmps) = true then Oper.wp P o a w K Q else E := by
  have hw : Region.wanted o (yielded ops a.tmps) = true := by simp [Region.wanted, hgd]
  rw [if_pos hw]
  subst hm hk
  unfold Oper.wp execOp
  simp only [ho, Sem.run_bind, Sem.run_pure, Result.andThen_ok, hr]
  exact h
theorem step_upd {ops : Array Oper} {o : Oper} {a : Act} {K : Act → World → Prop} {Q : Exit → Act → World → Prop} {E : Prop} (hgd : o.guard = none) (t : TypeId) (m k x : Operand) (ho : o.op = .mapUpdate t m k x) {mv kv xv : Value} {w' : World} (hm : a.eval m = mv) (hk : a.eval k = kv) (hx : a.eval x = xv) (hr : (Instr.mapUpdate t mv kv xv).run P w = .ok () w') (h : K (a.put o.dst undef) w') :
    if Region.wanted o (yielded ops a.tmps) = true then Oper.wp P o a w K Q else E := by
  have hw : Region.wanted o (yielded ops a.tmps) = true := by simp [Region.wanted, hgd]
  rw [if_pos hw]
  subst hm hk hx
  unfold Oper.wp execOp
  simp only [ho, Sem.run_bind, Sem.run_pure, Result.andThen_ok, hr]
  exact h
theorem step_del {ops : Array Oper} {o : Oper} {a : Act} {K : Act → World → Prop} {Q : Exit → Act → World → Prop} {E : Prop} (hgd : o.guard = none) (t kt : TypeId) (m k : Operand) (ho : o.op = .call { callee := .builtin .delete, args := #[m, k], argTypes := #[t, kt] }) {mv kv v : Value} {w' : World} (hm : a.eval m = mv) (hk : a.eval k = kv) (hr : (Builtin.delete_ #[t, kt] o.type #[mv, kv]).run P w = .ok v w') (h : K (a.put o.dst v) w') :
    if Region.wanted o (yielded ops a.tmps) = true then Oper.wp P o a w K Q else E := by
  have hw : Region.wanted o (yielded ops a.tmps) = true := by simp [Region.wanted, hgd]
  rw [if_pos hw]
  subst hm hk
  unfold Oper.wp execOp
  simp only [ho, resolve, invoke, builtin, Sem.run_bind, Sem.run_pure, Result.andThen_ok, List.map_toArray, List.map_cons, List.map_nil, hr]
  exact h
end
theorem vals_one (ps : List PV) : ∀ u ∈ ps.map PV.val, u.oneCell' = true := by
  intro u hu
  obtain ⟨p, _, rfl⟩ := List.mem_map.1 hu
  rfl
set_option maxHeartbeats 1000000 in
/-- cut. -/
theorem cut_any {K_ : Nat → Prop} {N : Nat} {st : NSt} (a b : Int) (ha : I64 a) (hb : I64 b) (k : Nat) (w : World) (h : NetAt w K_ N st) (hk : k < (sig st a b).length) :
    Calls Tryz.prog 42 #[.pointer (some ⟨N, 0, none⟩), linkV a b, .int .i64 k] w fun e w' => (∃ r, e = .returned r) ∧ ∃ st', NetAt w' K_ N st' ∧ (∀ x y, sig st' x y = if a = x ∧ b = y then (sig st a b).eraseIdx k else sig st x y) ∧ (∀ j, NOwn st' j → NOwn st j) ∧ Nw st w w' := by
  obtain ⟨r, hr⟩ : ∃ r, rowOf st a b = some r := by
    cases q : rowOf st a b with
    | none => simp [sig, q] at hk
    | some r => exact ⟨r, rfl⟩
  obtain ⟨hmem, ea, eb⟩ := rowOf_some hr
  have hsg : sig st a b = r.ps := by unfold sig; rw [hr]
  rw [hsg] at hk ⊢
  obtain ⟨j, hj⟩ := List.mem_iff_getElem?.1 hmem
  obtain ⟨es, ck, hm1, hm2, hm3⟩ := h.map
  obtain ⟨ent, he, k1, k2⟩ := ent_row hm3 hj
  have k1' : ent.key = linkV a b := by rw [k1, NRow.key, ea, eb]
  obtain ⟨li, hli⟩ := linkKey a b ha hb
  have hR := h.row r hmem
  have hgm := h.rowNotMap hmem
  have hNg : r.g ≠ N := fun e => h.netNotOwn (.inr ⟨r, hmem, e⟩)
  have hNm : N ≠ st.m := fun e => h.netNotOwn (.inl e)
  have hml := h.mlt
  have hgl := h.glt hmem
  have hmax : r.ps.length ≤ 64 := hR.few
  unfold linkV
  go_enter Tryz.func42, Tryz.ntmps42
  go_wp2_with fail
  have hbA : Below w.heap.size w (w.alloc (Obj.cells #[Value.int IntKind.i64 a, Value.int IntKind.i64 b] 58)) := (Below.refl _ _).alloc (Nat.le_refl _) _
  have hbx : Bk (w.alloc (Obj.cells #[Value.int IntKind.i64 a, Value.int IntKind.i64 b] 58)) w.heap.size 58 [Value.int IntKind.i64 a, Value.int IntKind.i64 b] := Bk.new w _ _
  have hws : w.heap.size < (w.alloc (Obj.cells #[Value.int IntKind.i64 a, Value.int IntKind.i64 b] 58)).heap.size := by simp
  generalize (w.alloc (Obj.cells #[Value.int IntKind.i64 a, Value.int IntKind.i64 b] 58)) = wa at *
  have hn1 : NetAt wa K_ N st := h.below hbA
  have hB : ∀ w' : World, w'.heap[N]? = wa.heap[N]? → w'.heap[w.heap.size]? = wa.heap[w.heap.size]? → (w'.cell? ⟨N, 0, none⟩ = some (.map (some st.m)) ∧ w'.cell? ⟨w.heap.size, 0, none⟩ = some (.int .i64 a) ∧ w'.cell? ⟨w.heap.size, 1, none⟩ = some (.int .i64 b)) := by
    intro w' q1 q2
    have p1 := hn1.net.cell 0
    have p2 := hbx.cell 0
    have p3 := hbx.cell 1
    exact ⟨(World.cell?_of_block q1).trans (by simpa using p1), (World.cell?_of_block q2).trans (by simpa using p2), (World.cell?_of_block q2).trans (by simpa using p3)⟩
  have hma : wa.heap[st.m]? = some (.map es.toArray ck) := (hbA.block _ hml).trans hm1
  have hxa : RowX wa.drew 28 (some ⟨r.g, 0, none⟩) r.cap r.g (r.ps.map PV.val) := (hn1.row r hmem).x
  have hlk : (Instr.lookup 44 (.map (some st.m)) (linkV a b) false).run Tryz.prog wa.drew = .ok (.slice (some ⟨r.g, 0, none⟩) r.ps.length r.cap) wa.drew := by
    rw [run_look_some linkLaw mapTy (w := wa.drew) hma hm2 hli he k1', k2]; rfl
  refine wp_region_held_drew (S := (fun w' => w'.cell? ⟨N, 0, none⟩ = some (.map (some st.m)) ∧ w'.cell? ⟨w.heap.size, 0, none⟩ = some (.int .i64 a) ∧ w'.cell? ⟨w.heap.size, 1, none⟩ = some (.int .i64 b))) (by kernel_rfl) (hB _ rfl rfl) (fun hS => ?_)
  refine wpAnyH_take (i := 0) (v := ?_) rfl (by kernel_rfl) (by kernel_rfl) (by kernel_rfl) (fun _ _ _ h => h) (Or.inl ⟨by rfl, ?_⟩) hS ?_
  rotate_left 1
  · intro w' hSw
    go_simp <;> with_reducible rfl
  try simp only [List.getElem_toArray, List.getElem_cons_zero, List.getElem_cons_succ, Act.put, List.setIfInBounds_toArray, List.set_cons_zero, List.set_cons_succ]
  refine wpAnyH_take (i := 1) (v := ?_) rfl (by kernel_rfl) (by kernel_rfl) (by kernel_rfl) (fun _ _ _ h => h) (Or.inl ⟨by rfl, ?_⟩) hS ?_
  rotate_left 1
  · intro w' hSw
    go_simp <;> with_reducible rfl
  try simp only [List.getElem_toArray, List.getElem_cons_zero, List.getElem_cons_succ, Act.put, List.setIfInBounds_toArray, List.set_cons_zero, List.set_cons_succ]
  refine wpAnyH_take (i := 2) (v := ?_) rfl (by kernel_rfl) (by kernel_rfl) (by kernel_rfl) (fun _ _ _ h => h) (Or.inl ⟨by rfl, ?_⟩) hS ?_
  rotate_left 1
  · intro w' hSw
    go_simp <;> with_reducible rfl
  try simp only [List.getElem_toArray, List.getElem_cons_zero, List.getElem_cons_succ, Act.put, List.setIfInBounds_toArray, List.set_cons_zero, List.set_cons_succ]
  refine wpAnyH_take (i := 3) (v := ?_) rfl (by kernel_rfl) (by kernel_rfl) (by kernel_rfl) (fun _ _ _ h => h) (Or.inl ⟨by rfl, ?_⟩) hS ?_
  rotate_left 1
  · intro w' hSw
    go_simp <;> with_reducible rfl
  try simp only [List.getElem_toArray, List.getElem_cons_zero, List.getElem_cons_succ, Act.put, List.setIfInBounds_toArray, List.set_cons_zero, List.set_cons_succ]
  refine wpAnyH_take (i := 4) (v := ?_) rfl (by kernel_rfl) (by kernel_rfl) (by kernel_rfl) (fun _ _ _ h => h) (Or.inl ⟨by rfl, ?_⟩) hS ?_
  rotate_left 1
  · intro w' hSw
    go_simp <;> with_reducible rfl
  try simp only [List.getElem_toArray, List.getElem_cons_zero, List.getElem_cons_succ, Act.put, List.setIfInBounds_toArray, List.set_cons_zero, List.set_cons_succ]
  refine wpAnyH_take (i := 5) (v := ?_) rfl (by kernel_rfl) (by kernel_rfl) (by kernel_rfl) (fun _ _ _ h => h) (Or.inl ⟨by rfl, ?_⟩) hS ?_
  rotate_left 1
  · intro w' hSw
    go_simp <;> with_reducible rfl
  try simp only [List.getElem_toArray, List.getElem_cons_zero, List.getElem_cons_succ, Act.put, List.setIfInBounds_toArray, List.set_cons_zero, List.set_cons_succ]
  refine wpAnyH_take (i := 6) (v := ?_) rfl (by kernel_rfl) (by kernel_rfl) (by kernel_rfl) (fun _ _ _ h => h) (Or.inl ⟨by rfl, ?_⟩) hS ?_
  rotate_left 1
  · intro w' hSw
    go_simp <;> with_reducible rfl
  try simp only [List.getElem_toArray, List.getElem_cons_zero, List.getElem_cons_succ, Act.put, List.setIfInBounds_toArray, List.set_cons_zero, List.set_cons_succ]
  refine wpAnyH_take (i := 7) (v := ?_) rfl (by kernel_rfl) (by kernel_rfl) (by kernel_rfl) (fun _ _ _ h => h) (Or.inl ⟨by rfl, ?_⟩) hS ?_
  rotate_left 1
  · intro w' hSw
    go_simp <;> with_reducible rfl
  try simp only [List.getElem_toArray, List.getElem_cons_zero, List.getElem_cons_succ, Act.put, List.setIfInBounds_toArray, List.set_cons_zero, List.set_cons_succ]
  refine wpAnyH_take (i := 8) (v := ?_) rfl (by kernel_rfl) (by kernel_rfl) (by kernel_rfl) (fun _ _ _ h => h) (Or.inl ⟨by rfl, ?_⟩) hS ?_
  rotate_left 1
  · intro w' hSw
    go_simp <;> with_reducible rfl
  try simp only [List.getElem_toArray, List.getElem_cons_zero, List.getElem_cons_succ, Act.put, List.setIfInBounds_toArray, List.set_cons_zero, List.set_cons_succ]
  refine wpAnyH_take (i := 9) (v := ?_) rfl (by kernel_rfl) (by kernel_rfl) (by kernel_rfl) (fun _ _ _ h => h) (Or.inl ⟨by rfl, ?_⟩) hS ?_
  rotate_left 1
  · intro w' hSw
    go_simp <;> with_reducible rfl
  try simp only [List.getElem_toArray, List.getElem_cons_zero, List.getElem_cons_succ, Act.put, List.setIfInBounds_toArray, List.set_cons_zero, List.set_cons_succ]
  refine wpAnyH_take (i := 11) (v := ?_) rfl (by kernel_rfl) (by kernel_rfl) (by kernel_rfl) (fun _ _ _ h => h) (Or.inl ⟨by rfl, ?_⟩) hS ?_
  rotate_left 1
  · intro w' hSw
    go_simp <;> with_reducible rfl
  try simp only [List.getElem_toArray, List.getElem_cons_zero, List.getElem_cons_succ, Act.put, List.setIfInBounds_toArray, List.set_cons_zero, List.set_cons_succ]
  refine wpAnyH_take (i := 12) (v := ?_) rfl (by kernel_rfl) (by kernel_rfl) (by kernel_rfl) (fun _ _ _ h => h) (Or.inl ⟨by rfl, ?_⟩) hS ?_
  rotate_left 1
  · intro w' hSw
    go_simp <;> with_reducible rfl
  try simp only [List.getElem_toArray, List.getElem_cons_zero, List.getElem_cons_succ, Act.put, List.setIfInBounds_toArray, List.set_cons_zero, List.set_cons_succ]
  refine wpAnyH_take (i := 13) (v := ?_) rfl (by kernel_rfl) (by kernel_rfl) (by kernel_rfl) (fun _ _ _ h => h) (Or.inl ⟨by rfl, ?_⟩) hS ?_
  rotate_left 1
  · intro w' hSw
    go_simp <;> with_reducible rfl
  try simp only [List.getElem_toArray, List.getElem_cons_zero, List.getElem_cons_succ, Act.put, List.setIfInBounds_toArray, List.set_cons_zero, List.set_cons_succ]
  refine wpAnyH_ready (rs := [10]) (by kernel_rfl) (by simp) (AllReadyH.cons rfl (fun K hK => ?_) AllReadyH.nil)
  refine step_look (by rfl) 44 (.tmp 14) (.tmp 15) (by rfl) (by rfl) (by rfl) hlk ?_
  refine hK _ _ hS (fun hS => ?_)
  clear hK K
  try simp only [List.getElem_toArray, List.getElem_cons_zero, List.getElem_cons_succ, Act.put, List.setIfInBounds_toArray, List.set_cons_zero, List.set_cons_succ]
  refine wpAnyH_ready (rs := [14]) (by kernel_rfl) (by simp) (AllReadyH.cons rfl (fun K hK => ?_) AllReadyH.nil)
  have hdel := Delete_any r.g r.cap k (r.ps.map PV.val) wa.drew hxa (by simpa using hk) (vals_one _)
  rw [List.length_map] at hdel
  go_simp
  have hwk : IntKind.i64.wrap ((k : Int) + 1) = (k : Int) + 1 := IntWalk.i64_in _ (by omega)
  rw [hwk]
  go_at_call 71
  (with_reducible refine hdel.mono ?_)
  rintro _ w2 ⟨rfl, hx2, o2, t2, u2, s2, f2⟩
  go_simp
  have s2' : w2.heap.size = wa.heap.size := s2
  have f2' : ∀ b, b ≠ r.g → w2.heap[b]? = wa.heap[b]? := f2
  have hm2' : w2.heap[st.m]? = some (.map es.toArray ck) := (f2' _ (fun e => hgm e.symm)).trans hma
  refine hK _ _ (hB _ (f2' _ (fun e => hNg e.symm)) (f2' _ (by omega))) (fun hS => ?_)
  clear hK K
  try simp only [List.getElem_toArray, List.getElem_cons_zero, List.getElem_cons_succ, Act.put, List.setIfInBounds_toArray, List.set_cons_zero, List.set_cons_succ]
  refine wpAnyH_ready (rs := [15]) (by kernel_rfl) (by simp) (AllReadyH.cons rfl (fun K hK => ?_) AllReadyH.nil)
  refine step_upd (by rfl) 44 (.tmp 9) (.tmp 10) (.tmp 20) (by rfl) (by rfl) (by rfl) (by rfl) (run_upd_some linkLaw mapTy hm2' hm2 hli he k1' (.slice (some ⟨r.g, 0, none⟩) (r.ps.length - 1) r.cap)) ?_
  refine hK _ _ (hB _ ((sbk_far hNm).trans (f2' _ (fun e => hNg e.symm))) ((sbk_far (by omega)).trans (f2' _ (by omega)))) (fun hS => ?_)
  clear hK K
  try simp only [List.getElem_toArray, List.getElem_cons_zero, List.getElem_cons_succ, Act.put, List.setIfInBounds_toArray, List.set_cons_zero, List.set_cons_succ]
  refine wpAnyH_done (by kernel_rfl) ?_ _
  have he1 : es.set j { ent with val := .slice (some ⟨r.g, 0, none⟩) (r.ps.length - 1) r.cap } = es.set j { ent with val := .slice (some ⟨r.g, 0, none⟩) (r.ps.length - 1) r.cap } := rfl
  have hm4 := sbk_same (o' := .map (es.set j { ent with val := .slice (some ⟨r.g, 0, none⟩) (r.ps.length - 1) r.cap }).toArray ck) hm2'
  have h4 : ∀ b, b ≠ st.m → (setBlock w2 st.m (.map (es.set j { ent with val := .slice (some ⟨r.g, 0, none⟩) (r.ps.length - 1) r.cap }).toArray ck)).heap[b]? = w2.heap[b]? := fun b e => sbk_far e
  have h4s : (setBlock w2 st.m (.map (es.set j { ent with val := .slice (some ⟨r.g, 0, none⟩) (r.ps.length - 1) r.cap }).toArray ck)).heap.size = w2.heap.size := by simp [setBlock]
  have h4o : (setBlock w2 st.m (.map (es.set j { ent with val := .slice (some ⟨r.g, 0, none⟩) (r.ps.length - 1) r.cap }).toArray ck)).os = w2.os ∧ (setBlock w2 st.m (.map (es.set j { ent with val := .slice (some ⟨r.g, 0, none⟩) (r.ps.length - 1) r.cap }).toArray ck)).tape = w2.tape ∧ (setBlock w2 st.m (.map (es.set j { ent with val := .slice (some ⟨r.g, 0, none⟩) (r.ps.length - 1) r.cap }).toArray ck)).output = w2.output := ⟨rfl, rfl, rfl⟩
  generalize (setBlock w2 st.m (.map (es.set j { ent with val := .slice (some ⟨r.g, 0, none⟩) (r.ps.length - 1) r.cap }).toArray ck)) = w4 at *
  have hes4 := hm2.set he (.slice (some ⟨r.g, 0, none⟩) (r.ps.length - 1) r.cap)
  have hjl : j < es.length := (List.getElem?_eq_some_iff.1 he).1
  have he4 : (es.set j { ent with val := .slice (some ⟨r.g, 0, none⟩) (r.ps.length - 1) r.cap })[j]? = some { ent with val := .slice (some ⟨r.g, 0, none⟩) (r.ps.length - 1) r.cap } := by rw [List.getElem?_set_self hjl]
  have hl4 : ∀ n, (Instr.lookup 44 (.map (some st.m)) (linkV a b) false).run Tryz.prog (w4.drewN n) = .ok (.slice (some ⟨r.g, 0, none⟩) (r.ps.length - 1) r.cap) (w4.drewN n) := by
    intro n
    rw [run_look_some linkLaw mapTy (w := w4.drewN n) hm4 hes4 hli he4 k1']
  have hl40 := hl4 0
  simp only [World.drewN_zero] at hl40
  unfold linkV at hl4 hl40
  obtain ⟨c1, c2, c3⟩ := hS
  go_wp2_with fail
  go_quiet (fail)
  by_cases hz : r.ps.length - 1 = 0
  · have dz : decide (((r.ps.length - 1 : Nat) : Int) = 0) = true := decide_eq_true (by omega)
    go_wp2_with fail
    have hee : ∀ x : MapEntry, (es.set j x).eraseIdx j = es.eraseIdx j := fun x => by
      apply List.ext_getElem?
      intro i
      rw [List.getElem?_eraseIdx, List.getElem?_eraseIdx]
      split
      · rw [List.getElem?_set_ne (by omega)]
      · rw [List.getElem?_set_ne (by omega)]
    have hrd := run_del_some (ty := 0) linkLaw mapTy (w := (w4.drewN nq).drew) hm4 hes4 hli he4 k1'
    rw [hee] at hrd
    refine wp_region_held_drew (S := (fun w' => w'.cell? ⟨N, 0, none⟩ = some (.map (some st.m)) ∧ w'.cell? ⟨w.heap.size, 0, none⟩ = some (.int .i64 a) ∧ w'.cell? ⟨w.heap.size, 1, none⟩ = some (.int .i64 b))) (by kernel_rfl) ⟨c1, c2, c3⟩ (fun hS => ?_)
    refine wpAnyH_take (i := 0) (v := ?_) rfl (by kernel_rfl) (by kernel_rfl) (by kernel_rfl) (fun _ _ _ h => h) (Or.inl ⟨by rfl, ?_⟩) hS ?_
    rotate_left 1
    · intro w' hSw
      go_simp <;> with_reducible rfl
    try simp only [List.getElem_toArray, List.getElem_cons_zero, List.getElem_cons_succ, Act.put, List.setIfInBounds_toArray, List.set_cons_zero, List.set_cons_succ]
    refine wpAnyH_take (i := 1) (v := ?_) rfl (by kernel_rfl) (by kernel_rfl) (by kernel_rfl) (fun _ _ _ h => h) (Or.inl ⟨by rfl, ?_⟩) hS ?_
    rotate_left 1
    · intro w' hSw
      go_simp <;> with_reducible rfl
    try simp only [List.getElem_toArray, List.getElem_cons_zero, List.getElem_cons_succ, Act.put, List.setIfInBounds_toArray, List.set_cons_zero, List.set_cons_succ]
    refine wpAnyH_take (i := 2) (v := ?_) rfl (by kernel_rfl) (by kernel_rfl) (by kernel_rfl) (fun _ _ _ h => h) (Or.inl ⟨by rfl, ?_⟩) hS ?_
    rotate_left 1
    · intro w' hSw
      go_simp <;> with_reducible rfl
    try simp only [List.getElem_toArray, List.getElem_cons_zero, List.getElem_cons_succ, Act.put, List.setIfInBounds_toArray, List.set_cons_zero, List.set_cons_succ]
    refine wpAnyH_take (i := 3) (v := ?_) rfl (by kernel_rfl) (by kernel_rfl) (by kernel_rfl) (fun _ _ _ h => h) (Or.inl ⟨by rfl, ?_⟩) hS ?_
    rotate_left 1
    · intro w' hSw
      go_simp <;> with_reducible rfl
    try simp only [List.getElem_toArray, List.getElem_cons_zero, List.getElem_cons_succ, Act.put, List.setIfInBounds_toArray, List.set_cons_zero, List.set_cons_succ]
    refine wpAnyH_take (i := 4) (v := ?_) rfl (by kernel_rfl) (by kernel_rfl) (by kernel_rfl) (fun _ _ _ h => h) (Or.inl ⟨by rfl, ?_⟩) hS ?_
    rotate_left 1
    · intro w' hSw
      go_simp <;> with_reducible rfl
    try simp only [List.getElem_toArray, List.getElem_cons_zero, List.getElem_cons_succ, Act.put, List.setIfInBounds_toArray, List.set_cons_zero, List.set_cons_succ]
    refine wpAnyH_ready (rs := [5]) (by kernel_rfl) (by simp) (AllReadyH.cons rfl (fun K hK => ?_) AllReadyH.nil)
    refine step_del (by rfl) 44 58 (.tmp 32) (.tmp 33) (by rfl) (by rfl) (by rfl) hrd ?_
    refine hK _ _ ⟨(World.cell?_of_block (sbk_far hNm)).trans c1, (World.cell?_of_block (sbk_far (by show w.heap.size ≠ st.m; omega))).trans c2, (World.cell?_of_block (sbk_far (by show w.heap.size ≠ st.m; omega))).trans c3⟩ (fun hS => ?_)
    clear hK K
    try simp only [List.getElem_toArray, List.getElem_cons_zero, List.getElem_cons_succ, Act.put, List.setIfInBounds_toArray, List.set_cons_zero, List.set_cons_succ]
    refine wpAnyH_done (by kernel_rfl) ?_ _
    go_wp2_with fail
    go_end0
    have hap := List.pairwise_iff_getElem.1 h.apart
    have hgR : ∀ i s, i ≠ j → st.rows[i]? = some s → s.g ≠ r.g := by
      intro i s hi hs' e
      obtain ⟨i1, i2⟩ := List.getElem?_eq_some_iff.1 hs'
      obtain ⟨j1, j2⟩ := List.getElem?_eq_some_iff.1 hj
      rcases Nat.lt_or_gt_of_ne hi with q | q
      · have := hap i j i1 j1 q
        rw [i2, j2] at this
        exact this.1 e
      · have := hap j i j1 i1 q
        rw [i2, j2] at this
        exact this.1 e.symm
    have old : ∀ b, b ≠ st.m → b ≠ r.g → (setBlock (w4.drewN nq).drew st.m (.map (es.eraseIdx j).toArray ck)).heap[b]? = wa.heap[b]? := fun b e1 e2 => (sbk_far e1).trans ((h4 b e1).trans (f2' b e2))
    have hun : ∀ b, UB wa b → (setBlock (w4.drewN nq).drew st.m (.map (es.eraseIdx j).toArray ck)).heap[b]? = wa.heap[b]? := fun b hu => old b (fun e => (hn1.notUB hu).1 (.inl e)) (fun e => (hn1.notUB hu).1 (.inr ⟨r, hmem, e.symm⟩))
    have hsz : wa.heap.size ≤ (setBlock (w4.drewN nq).drew st.m (.map (es.eraseIdx j).toArray ck)).heap.size := by
      rw [show (setBlock (w4.drewN nq).drew st.m (.map (es.eraseIdx j).toArray ck)).heap.size = w4.heap.size by simp [setBlock]]; omega
    have hnil : r.ps.eraseIdx k = [] := List.eq_nil_of_length_eq_zero (by rw [List.length_eraseIdx_of_lt hk]; exact hz)
    refine ⟨⟨_, rfl⟩, ⟨st.m, st.rows.eraseIdx j⟩, hn1.eraseRow hj ?_ (old N hNm hNg.symm) (fun i s hi hs' => old _ (h.rowNotMap (List.mem_of_getElem? hs')) (hgR i s hi hs')) (fun b _ hu => hun b hu) (fun b hb _ _ => hb) hsz, fun x y => ?_, ?_, ?_⟩
    · intro es' ck' e' q1 _ _ _
      rw [hma] at q1
      injection q1 with q1
      injection q1 with q1 q3
      obtain rfl : es = es' := by simpa using q1
      subst q3
      exact sbk_same (w := (w4.drewN nq).drew) hm4
    · rw [sig_erase h.ka hj, ea, eb, hnil]
    · rintro q (e | ⟨s, hs', e⟩)
      · exact .inl e
      · exact .inr ⟨s, (List.eraseIdx_sublist _ _).subset hs', e⟩
    · exact ⟨h4o.1.trans (o2.trans hbA.os), h4o.2.1.trans (t2.trans hbA.tape), h4o.2.2.trans (u2.trans hbA.output), by have := hbA.size; omega, fun b b1 b2 => (old b (fun e => b2 (.inl e)) (fun e => b2 (.inr ⟨r, hmem, e.symm⟩))).trans (hbA.block b b1)⟩
  · have dz : decide (((r.ps.length - 1 : Nat) : Int) = 0) = false := decide_eq_false (by omega)
    go_wp2_with fail
    go_end0
    have hx4 : RowX (w4.drewN nq) 28 (some ⟨r.g, 0, none⟩) r.cap r.g ((r.ps.eraseIdx k).map PV.val) := by
      rw [map_erase]; exact hx2.keep (fun _ => h4 _ hgm)
    have hlen : (r.ps.eraseIdx k).length = r.ps.length - 1 := List.length_eraseIdx_of_lt hk
    have old : ∀ b, b ≠ st.m → b ≠ r.g → (w4.drewN nq).heap[b]? = wa.heap[b]? := fun b e1 e2 => (h4 b e1).trans (f2' b e2)
    have hun : ∀ b, UB wa b → (w4.drewN nq).heap[b]? = wa.heap[b]? := fun b hu => old b (fun e => (hn1.notUB hu).1 (.inl e)) (fun e => (hn1.notUB hu).1 (.inr ⟨r, hmem, e.symm⟩))
    have hsz : wa.heap.size ≤ (w4.drewN nq).heap.size := by rw [show (w4.drewN nq).heap.size = w4.heap.size from rfl]; omega
    have hRa := hn1.row r hmem
    obtain ⟨ext, e1, e2⟩ : ∃ ext, Bk (w4.drewN nq) r.g 28 ((r.ps.eraseIdx k).map PV.val ++ ext) ∧ ((r.ps.eraseIdx k).map PV.val ++ ext).length = r.cap := by
      rcases hx4 with ⟨q, _⟩ | ⟨_, _, q⟩
      · cases q
      · exact q
    have hra : RowAt (w4.drewN nq) K_ { r with ps := r.ps.eraseIdx k } := ⟨hR.ia, hR.ib, (fun e => by have e' := congrArg List.length e; simp only [List.length_nil] at e'; omega), (by show (r.ps.eraseIdx k).length ≤ 64; omega), (by show (r.ps.eraseIdx k).length ≤ r.cap; have := hR.le; omega), hR.max, ⟨ext, e1, e2⟩, fun p hp => ⟨(hRa.narrow.dat p (List.mem_of_mem_eraseIdx hp)).1.keep (fun b hb _ => hun b hb.2) hsz (fun b hb _ => hb.1), (hRa.dat p (List.mem_of_mem_eraseIdx hp)).2⟩, hR.pap.sublist (List.eraseIdx_sublist _ _)⟩
    have hap := List.pairwise_iff_getElem.1 h.apart
    have hsep : ∀ i s, i ≠ j → st.rows[i]? = some s → RSep r s := by
      intro i s hi hs'
      obtain ⟨i1, i2⟩ := List.getElem?_eq_some_iff.1 hs'
      obtain ⟨j1, j2⟩ := List.getElem?_eq_some_iff.1 hj
      rcases Nat.lt_or_gt_of_ne hi with q | q
      · have := hap i j i1 j1 q
        rw [i2, j2] at this
        exact this.symm
      · have := hap j i j1 i1 q
        rw [i2, j2] at this
        exact this
    have hgR : ∀ i s, i ≠ j → st.rows[i]? = some s → s.g ≠ r.g := fun i s hi hs' e => (hsep i s hi hs').1 e.symm
    refine ⟨⟨_, rfl⟩, ⟨st.m, st.rows.set j { r with ps := r.ps.eraseIdx k }⟩, hn1.setRow hj rfl rfl ?_ (old N hNm hNg.symm) (fun i s hi hs' => old _ (h.rowNotMap (List.mem_of_getElem? hs')) (hgR i s hi hs')) (fun b _ hu => hun b hu) (fun b hb _ _ => hb) hra (fun i s hi hs' => ⟨(hsep i s hi hs').1, fun p hp q hq => (hsep i s hi hs').2 p (List.mem_of_mem_eraseIdx hp) q hq⟩) hsz, fun x y => ?_, ?_, ?_⟩
    · intro es' ck' e' q1 _ q2 _ _
      rw [hma] at q1
      injection q1 with q1
      injection q1 with q1 q3
      obtain rfl : es = es' := by simpa using q1
      subst q3
      rw [he] at q2
      injection q2 with q2
      subst q2
      refine Eq.trans (show _ = w4.heap[st.m]? from rfl) (hm4.trans ?_)
      simp [NRow.val, hlen]
    · rw [sig_set (r' := { r with ps := r.ps.eraseIdx k }) h.ka hj rfl rfl, ea, eb]
    · rintro q (e | ⟨s, hs', e⟩)
      · exact .inl e
      · rcases List.mem_or_eq_of_mem_set hs' with k' | rfl
        · exact .inr ⟨s, k', e⟩
        · exact .inr ⟨r, hmem, e⟩
    · exact ⟨h4o.1.trans (o2.trans hbA.os), h4o.2.1.trans (t2.trans hbA.tape), h4o.2.2.trans (u2.trans hbA.output), by have := hbA.size; omega, fun b b1 b2 => (old b (fun e => b2 (.inl e)) (fun e => b2 (.inr ⟨r, hmem, e.symm⟩))).trans (hbA.block b b1)⟩
end Go.Proofs.YtenkhbiikecegaaGreat
