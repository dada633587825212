/- net: put. -/
import Derived.Test.YtenkhbiikecegaaGreatNEnt
import Derived.Test.YtenkhbiikecegaaGreatNFun
import Derived.Deep.RegionLaw
namespace Go.Proofs.YtenkhbiikecegaaGreat
open Go.RowKit Go.Maps Go.ChangeMaps
set_option linter.unusedVariables false
set_option linter.unusedSimpArgs false
set_option maxRecDepth 100000

section
variable {P : Program} {w : World}
theorem step_entry {ops : Array Oper} {o : Oper} {a : Act} {K : Act → World → Prop} {Q : Exit → Act → World → Prop} {E : Prop} (hgd : o.guard = none) (t : TypeId) (m k : Operand) (ho : o.op = .mapEntry t m k) {mv kv v : Value} {w' : World} (hm : a.eval m = mv) (hk : a.eval k = kv) (hr : (Instr.mapEntry t mv kv).run P w = .ok v w') (h : K (a.put o.dst v) w') :
    if Region.wanted o (yielded ops a.tmps) = true then Oper.wp P o a w K Q else E := by
  have hw : Region.wanted o (yielded ops a.tmps) = true := by simp [Region.wanted, hgd]
  rw [if_pos hw]
  subst hm hk
  unfold Oper.wp execOp
  simp only [ho, Sem.run_bind, Sem.run_pure, Result.andThen_ok, hr]
  exact h
theorem step_store {ops : Array Oper} {o : Oper} {a : Act} {K : Act → World → Prop} {Q : Exit → Act → World → Prop} {E : Prop} (hgd : o.guard = none) (t : TypeId) (m s x : Operand) (ho : o.op = .entryStore t m s x) {mv sv xv : Value} {w' : World} (hm : a.eval m = mv) (hs : a.eval s = sv) (hx : a.eval x = xv) (hr : (Instr.entryStore t mv sv xv).run P w = .ok () w') (h : K (a.put o.dst undef) w') :
    if Region.wanted o (yielded ops a.tmps) = true then Oper.wp P o a w K Q else E := by
  have hw : Region.wanted o (yielded ops a.tmps) = true := by simp [Region.wanted, hgd]
  rw [if_pos hw]
  subst hm hs hx
  unfold Oper.wp execOp
  simp only [ho, Sem.run_bind, Sem.run_pure, Result.andThen_ok, hr]
  exact h
end
theorem info29 : (Tryz.prog.info? 28).map (fun i => (i.zero, i.size, i.bytes)) = some (some (.slice none 0 0), 1, 24) := by kernel_rfl
theorem RowX.obk {w : World} {e : TypeId} {A : Option Addr} {c g n : Nat} {xs : List Value} (h : RowX w e A c g xs) {k : Nat} (hk : A ≠ none → k ≠ g) : (Value.slice A n c).ownBlock ≠ some k := by
  rcases h with ⟨rfl, _⟩ | ⟨rfl, _⟩
  · exact fun e => by cases e
  · intro e
    injection e with e
    exact hk (by simp) e.symm
theorem Dat.own {w : World} {K : Nat → Prop} {A : Option Addr} {c k : Nat} {l : List Int} (h : Dat w K A c l) (hk : (Value.slice A l.length c).ownBlock = some k) : K k ∧ k < w.heap.size := by
  obtain ⟨b, h1, h2⟩ := h
  rcases h1.2 with ⟨q, _⟩ | ⟨cap, cur, q, _⟩
  · rw [q] at hk; cases hk
  · have e : (Value.slice A l.length c).ownBlock = some b := by rw [q]; rfl
    rw [e] at hk
    injection hk with hk
    subst hk
    exact h2 e
/-- What a net may write, and what is new: all else is left. -/
structure Nw (st : NSt) (w w' : World) : Prop where
  os : w'.os = w.os
  tape : w'.tape = w.tape
  output : w'.output = w.output
  size : w.heap.size ≤ w'.heap.size
  block : ∀ k, k < w.heap.size → ¬ NOwn st k → w'.heap[k]? = w.heap[k]?
set_option maxHeartbeats 1000000 in
/-- put. -/
theorem put_any {K_ KP : Nat → Prop} {N : Nat} {st : NSt} (a b : Int) (ha : I64 a) (hb : I64 b) (A : Option Addr) (c : Nat) (l : List Int) (w : World) (h : NetAt w K_ N st) (hl : Rd w KP A c (u8s l)) (hKP : ∀ k, KP k → k < w.heap.size) (hlen : l.length ≤ 262144) (hf : (sig st a b).length < 64) :
    Calls Tryz.prog 38 #[.pointer (some ⟨N, 0, none⟩), linkV a b, .slice A l.length c] w fun e w' => (∃ r, e = .returned r) ∧ ∃ st' p, p.l = l ∧ NetAt w' (fun k => K_ k ∨ w.heap.size ≤ k) N st' ∧ (∀ x y, sig st' x y = if a = x ∧ b = y then sig st a b ++ [p] else sig st x y) ∧ (∀ k, NOwn st' k → NOwn st k ∨ w.heap.size ≤ k) ∧ Nw st w w' := by
  obtain ⟨i0, hi, hz, hz1, hz2⟩ := info_parts info29
  unfold linkV
  go_enter Tryz.func38, Tryz.ntmps38
  go_wp2_with fail
  have hbA : Below w.heap.size w (w.alloc (Obj.cells #[Value.int IntKind.i64 a, Value.int IntKind.i64 b] 58)) := (Below.refl _ _).alloc (Nat.le_refl _) _
  have hbx : Bk (w.alloc (Obj.cells #[Value.int IntKind.i64 a, Value.int IntKind.i64 b] 58)) w.heap.size 58 [Value.int IntKind.i64 a, Value.int IntKind.i64 b] := Bk.new w _ _
  have hws : w.heap.size < (w.alloc (Obj.cells #[Value.int IntKind.i64 a, Value.int IntKind.i64 b] 58)).heap.size := by simp
  generalize (w.alloc (Obj.cells #[Value.int IntKind.i64 a, Value.int IntKind.i64 b] 58)) = wa at *
  have hn1 : NetAt wa K_ N st := h.below hbA
  have hr1 : Rd wa KP A c (u8s l) := hl.keep (fun k hk => hbA.block k (hKP k hk)) (fun _ q => q)
  have hB : ∀ w', Below wa.heap.size wa w' → (w'.cell? ⟨N, 0, none⟩ = some (.map (some st.m)) ∧ w'.cell? ⟨w.heap.size, 0, none⟩ = some (.int .i64 a) ∧ w'.cell? ⟨w.heap.size, 1, none⟩ = some (.int .i64 b)) := by
    intro w' hw'
    have q1 := (hn1.net.below hw' hn1.net.lt).cell 0
    have q2 := (hbx.below hw' hbx.lt).cell 0
    have q3 := (hbx.below hw' hbx.lt).cell 1
    exact ⟨by simpa using q1, by simpa using q2, by simpa using q3⟩
  have hcl := clone_any KP A c l wa.drew hr1 (by omega)
  refine wp_region_held_drew (S := fun w' => w'.cell? ⟨N, 0, none⟩ = some (.map (some st.m)) ∧ w'.cell? ⟨w.heap.size, 0, none⟩ = some (.int .i64 a) ∧ w'.cell? ⟨w.heap.size, 1, none⟩ = some (.int .i64 b)) (by kernel_rfl) (hB _ (Below.refl _ _).drew) (fun hS => ?_)
  refine wpAnyH_take (i := 0) (v := ?_) rfl (by kernel_rfl) (by kernel_rfl) (by kernel_rfl) (fun _ _ _ h => h) (Or.inl ⟨by rfl, ?_⟩) hS ?_
  rotate_left 1
  · intro w' hSw
    go_simp <;> with_reducible rfl
  try simp only [List.getElem_toArray, List.getElem_cons_zero, List.getElem_cons_succ, Act.put, List.setIfInBounds_toArray, List.set_cons_zero, List.set_cons_succ]
  refine wpAnyH_take (i := 1) (v := ?_) rfl (by kernel_rfl) (by kernel_rfl) (by kernel_rfl) (fun _ _ _ h => h) (Or.inl ⟨by rfl, ?_⟩) hS ?_
  rotate_left 1
  · intro w' hSw
    go_simp <;> with_reducible rfl
  try simp only [List.getElem_toArray, List.getElem_cons_zero, List.getElem_cons_succ, Act.put, List.setIfInBounds_toArray, List.set_cons_zero, List.set_cons_succ]
  refine wpAnyH_take (i := 2) (v := ?_) rfl (by kernel_rfl) (by kernel_rfl) (by kernel_rfl) (fun _ _ _ h => h) (Or.inl ⟨by rfl, ?_⟩) hS ?_
  rotate_left 1
  · intro w' hSw
    go_simp <;> with_reducible rfl
  try simp only [List.getElem_toArray, List.getElem_cons_zero, List.getElem_cons_succ, Act.put, List.setIfInBounds_toArray, List.set_cons_zero, List.set_cons_succ]
  refine wpAnyH_take (i := 3) (v := ?_) rfl (by kernel_rfl) (by kernel_rfl) (by kernel_rfl) (fun _ _ _ h => h) (Or.inl ⟨by rfl, ?_⟩) hS ?_
  rotate_left 1
  · intro w' hSw
    go_simp <;> with_reducible rfl
  try simp only [List.getElem_toArray, List.getElem_cons_zero, List.getElem_cons_succ, Act.put, List.setIfInBounds_toArray, List.set_cons_zero, List.set_cons_succ]
  refine wpAnyH_take (i := 4) (v := ?_) rfl (by kernel_rfl) (by kernel_rfl) (by kernel_rfl) (fun _ _ _ h => h) (Or.inl ⟨by rfl, ?_⟩) hS ?_
  rotate_left 1
  · intro w' hSw
    go_simp <;> with_reducible rfl
  try simp only [List.getElem_toArray, List.getElem_cons_zero, List.getElem_cons_succ, Act.put, List.setIfInBounds_toArray, List.set_cons_zero, List.set_cons_succ]
  refine wpAnyH_take (i := 5) (v := ?_) rfl (by kernel_rfl) (by kernel_rfl) (by kernel_rfl) (fun _ _ _ h => h) (Or.inl ⟨by rfl, ?_⟩) hS ?_
  rotate_left 1
  · intro w' hSw
    go_simp <;> with_reducible rfl
  try simp only [List.getElem_toArray, List.getElem_cons_zero, List.getElem_cons_succ, Act.put, List.setIfInBounds_toArray, List.set_cons_zero, List.set_cons_succ]
  refine wpAnyH_ready (rs := [6]) (by kernel_rfl) (by simp) (AllReadyH.cons rfl (fun K hK => ?_) AllReadyH.nil)
  go_simp
  go_at_call 70
  refine hcl.mono ?_
  rintro _ w2 ⟨A', c', rfl, hd, hb2⟩
  have hb2' : Below wa.heap.size wa w2 := (Below.refl _ _).drew.trans hb2
  go_simp
  refine hK _ _ (hB _ hb2') (fun hS => ?_)
  clear hK K
  try simp only [List.getElem_toArray, List.getElem_cons_zero, List.getElem_cons_succ, Act.put, List.setIfInBounds_toArray, List.set_cons_zero, List.set_cons_succ]
  refine wpAnyH_ready (rs := [7]) (by kernel_rfl) (by simp) (AllReadyH.cons rfl (fun K hK => ?_) AllReadyH.nil)
  go_simp
  have hb3 : Below wa.heap.size wa (w2.alloc (.cells #[.slice A' l.length c'] 28)) := hb2'.alloc hb2'.size _
  have nu := (Bk.new w2 28 [.slice A' l.length c']).cell 0
  simp only [List.getElem?_cons_zero] at nu
  have hd3 : Dat (w2.alloc (.cells #[.slice A' l.length c'] 28)) (fun b => wa.heap.size ≤ b) A' c' l := hd.keep (fun b _ hl => heap_alloc_old w2 _ hl) (by simp) (fun _ q _ => q)
  have hs3 : w2.heap.size < (w2.alloc (.cells #[.slice A' l.length c'] 28)).heap.size := by simp
  refine hK _ _ (hB _ hb3) (fun hS => ?_)
  clear hK K
  generalize (w2.alloc (.cells #[.slice A' l.length c'] 28)) = w3 at *
  have hs2 := hb2'.size
  have hs0 := hbA.size
  have hn3 := hn1.below hb3
  obtain ⟨A0, c0, g0, es1, ck, j, e1, run, hes, hej, hrx, hown, hfin⟩ := hn3.addTo ha hb hf
  have hm3 := hn3.mlt
  have hml := h.mlt
  have h4 : ∀ k, k ≠ st.m → (setBlock w3 st.m (.map es1.toArray ck)).heap[k]? = w3.heap[k]? := fun k e => sbk_far e
  have h4m : (setBlock w3 st.m (.map es1.toArray ck)).heap[st.m]? = some (.map es1.toArray ck) := sbk_same (o := w3.heap[st.m]) (by rw [Array.getElem?_eq_getElem hm3])
  have h4s : (setBlock w3 st.m (.map es1.toArray ck)).heap.size = w3.heap.size := by simp [setBlock]
  have h4o : (setBlock w3 st.m (.map es1.toArray ck)).os = w3.os ∧ (setBlock w3 st.m (.map es1.toArray ck)).tape = w3.tape ∧ (setBlock w3 st.m (.map es1.toArray ck)).output = w3.output := ⟨rfl, rfl, rfl⟩
  have hNm : N ≠ st.m := fun e => h.netNotOwn (.inl e)
  have hg0 : A0 ≠ none → g0 < w.heap.size ∧ g0 ≠ N := fun q => ⟨h.olt (hown q).1, fun e => h.netNotOwn (e ▸ (hown q).1)⟩
  have hS4 : ∀ w' : World, w'.heap[N]? = w3.heap[N]? → w'.heap[w.heap.size]? = w3.heap[w.heap.size]? → (w'.cell? ⟨N, 0, none⟩ = some (.map (some st.m)) ∧ w'.cell? ⟨w.heap.size, 0, none⟩ = some (.int .i64 a) ∧ w'.cell? ⟨w.heap.size, 1, none⟩ = some (.int .i64 b)) := fun w' q1 q2 => ⟨(World.cell?_of_block q1).trans hS.1, (World.cell?_of_block q2).trans hS.2.1, (World.cell?_of_block q2).trans hS.2.2⟩
  try simp only [List.getElem_toArray, List.getElem_cons_zero, List.getElem_cons_succ, Act.put, List.setIfInBounds_toArray, List.set_cons_zero, List.set_cons_succ]
  refine wpAnyH_ready (rs := [8]) (by kernel_rfl) (by simp) (AllReadyH.cons rfl (fun K hK => ?_) AllReadyH.nil)
  refine step_entry (by rfl) 44 (.tmp 9) (.tmp 10) (by rfl) (by rfl) (by rfl) run ?_
  refine hK _ _ (hS4 _ (h4 _ hNm) (h4 _ (by omega))) (fun hS => ?_)
  clear hK K
  have nu4 : (setBlock w3 st.m (.map es1.toArray ck)).cell? ⟨w2.heap.size, 0, none⟩ = some (.slice A' l.length c') := (World.cell?_of_block (h4 _ (by show w2.heap.size ≠ st.m; omega))).trans nu
  have hrx4 := hrx.keep (fun q => h4 g0 (hown q).2)
  generalize (setBlock w3 st.m (.map es1.toArray ck)) = w4 at *
  try simp only [List.getElem_toArray, List.getElem_cons_zero, List.getElem_cons_succ, Act.put, List.setIfInBounds_toArray, List.set_cons_zero, List.set_cons_succ]
  refine wpAnyH_take (i := 9) (v := ?_) rfl (by kernel_rfl) (by kernel_rfl) (by kernel_rfl) (fun _ _ _ h => h) (Or.inl ⟨by rfl, ?_⟩) hS ?_
  rotate_left 1
  · intro w' hSw
    go_simp <;> with_reducible rfl
  try simp only [List.getElem_toArray, List.getElem_cons_zero, List.getElem_cons_succ, Act.put, List.setIfInBounds_toArray, List.set_cons_zero, List.set_cons_succ]
  refine wpAnyH_take (i := 11) (v := ?_) rfl (by kernel_rfl) (by kernel_rfl) (by kernel_rfl) (fun _ _ _ h => h) (Or.inl ⟨by rfl, ?_⟩) hS ?_
  rotate_left 1
  · intro w' hSw
    go_simp <;> with_reducible rfl
  try simp only [List.getElem_toArray, List.getElem_cons_zero, List.getElem_cons_succ, Act.put, List.setIfInBounds_toArray, List.set_cons_zero, List.set_cons_succ]
  refine wpAnyH_ready (rs := [10]) (by kernel_rfl) (by simp) (AllReadyH.cons rfl (fun K hK => ?_) AllReadyH.nil)
  refine step_append_x _ (by rfl) (.tmp 11) (.tmp 14) 27 (by rfl) 28 i0 _ 24 Tryz.underlying27 hi hz hz1 hz2 rfl A0 c0 g0 ((sig st a b).map PV.val) (by rw [List.length_map]; rfl) hrx4 ⟨w2.heap.size, 0, none⟩ (.slice A' l.length c') (by rfl) (by simpa [Addr.add] using nu4) rfl (by rw [List.length_map]; unfold maxLen; omega) (by rw [List.length_map]; omega) ?_
  intro c9 w5 g9 hx5 hgr hg hlt9
  rw [List.length_map] at hgr ⊢
  have h5 : ∀ k, k < w3.heap.size → (A0 ≠ none → k ≠ g0) → w5.heap[k]? = w4.heap[k]? := fun k kl kg => hgr.block k (by omega) (fun e => hrx.obk kg e.symm)
  have h5s : w4.heap.size ≤ w5.heap.size := hgr.size
  refine hK _ _ (hS4 _ ((h5 N hn3.net.lt (fun q => (hg0 q).2.symm)).trans (h4 _ hNm)) ((h5 _ (by omega) (fun q => by have := (hg0 q).1; omega)).trans (h4 _ (by omega)))) (fun hS => ?_)
  clear hK K
  have h5m : w5.heap[st.m]? = some (.map es1.toArray ck) := (h5 _ hm3 (fun q e => (hown q).2 e.symm)).trans h4m
  try simp only [List.getElem_toArray, List.getElem_cons_zero, List.getElem_cons_succ, Act.put, List.setIfInBounds_toArray, List.set_cons_zero, List.set_cons_succ]
  refine wpAnyH_ready (rs := [12]) (by kernel_rfl) (by simp) (AllReadyH.cons rfl (fun K hK => ?_) AllReadyH.nil)
  refine step_store (by rfl) 44 (.tmp 9) (.tmp 17) (.tmp 16) (by rfl) (by rfl) (by rfl) (by rfl) (run_entry_store h5m hes hej (.slice (some ⟨g9, 0, none⟩) ((sig st a b).length + 1) c9)) ?_
  refine hK _ _ (hS4 _ ((sbk_far hNm).trans ((h5 N hn3.net.lt (fun q => (hg0 q).2.symm)).trans (h4 _ hNm))) ((sbk_far (by omega)).trans ((h5 _ (by omega) (fun q => by have := (hg0 q).1; omega)).trans (h4 _ (by omega))))) (fun hS => ?_)
  clear hK K
  try simp only [List.getElem_toArray, List.getElem_cons_zero, List.getElem_cons_succ, Act.put, List.setIfInBounds_toArray, List.set_cons_zero, List.set_cons_succ]
  refine wpAnyH_done (by kernel_rfl) ?_ _
  go_wp2_with fail
  go_end0
  have hg9m : g9 ≠ st.m := by
    rcases hg with q | ⟨q, q'⟩
    · omega
    · rw [q]; exact (hown (by rw [q']; simp)).2
  have h6 : ∀ k, k < w3.heap.size → k ≠ st.m → (A0 ≠ none → k ≠ g0) → (setBlock w5 st.m (.map (es1.set j { e1 with val := .slice (some ⟨g9, 0, none⟩) ((sig st a b).length + 1) c9 }).toArray ck)).heap[k]? = w3.heap[k]? := fun k kl km kg => (sbk_far km).trans ((h5 k kl kg).trans (h4 k km))
  have h6s : (setBlock w5 st.m (.map (es1.set j { e1 with val := .slice (some ⟨g9, 0, none⟩) ((sig st a b).length + 1) c9 }).toArray ck)).heap.size = w5.heap.size := by simp [setBlock]
  have hsep : ∀ r ∈ st.rows, ∀ q ∈ r.ps, PSep q ⟨A', c', l⟩ := by
    intro r hr q hq k k1 k2
    have e1 := (((h.row r hr).dat q hq).1.own k1).2
    have e2 := (hd3.own k2).1
    omega
  obtain ⟨st', f1, f2, f3, f4⟩ := hfin _ (fun k => K_ k ∨ w.heap.size ≤ k) ⟨A', c', l⟩ g9 c9 (sbk_same h5m) (hx5.keep (fun _ => sbk_far hg9m)) (hg.imp (fun q => by omega) (fun q => ⟨q.1, by rw [q.2]; simp⟩)) h6 (by omega) (hd3.keep (fun k k1 k2 => h6 k k2 (by omega) (fun q => by have := (hg0 q).1; omega)) (by omega) (fun k k1 _ => .inr (by omega))) hlen hsep (fun k q _ => .inl q)
  refine ⟨⟨_, rfl⟩, st', _, rfl, f1, f2, fun k q => (f4 k q).imp id (fun q => by omega), ⟨hgr.os.trans (h4o.1.trans (hb3.os.trans hbA.os)), hgr.tape.trans (h4o.2.1.trans (hb3.tape.trans hbA.tape)), hgr.output.trans (h4o.2.2.trans (hb3.output.trans hbA.output)), by omega, fun k k1 k2 => ?_⟩⟩
  exact (h6 k (by omega) (fun e => k2 (.inl e)) (fun q e => k2 (by rw [e]; exact (hown q).1))).trans ((hb3.block k (by omega)).trans (hbA.block k k1))
end Go.Proofs.YtenkhbiikecegaaGreat
