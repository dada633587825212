/- disk: files taken away, and put under a name. disk: Remove. -/
import Derived.Test.YtcmbeolicopicaaGreatDCut
namespace Go.Proofs.YtcmbeolicopicaaGreat
open Go.RowKit Go.Maps Go.ChangeMaps
set_option linter.unusedVariables false
set_option linter.unusedSimpArgs false
set_option maxRecDepth 100000

theorem sbk_same {w : World} {m : Nat} {o o' : Obj} (h : w.heap[m]? = some o) : (setBlock w m o').heap[m]? = some o' := by
  have := (Array.getElem?_eq_some_iff.1 h).1
  simp [setBlock, this]
theorem sbk_far {w : World} {m k : Nat} {o' : Obj} (h : k ≠ m) : (setBlock w m o').heap[k]? = w.heap[k]? := by
  simp [setBlock, Array.getElem?_setIfInBounds_ne (fun e => h e.symm)]
theorem sbk_size (w : World) (m : Nat) (o' : Obj) : (setBlock w m o').heap.size = w.heap.size := by simp [setBlock]
/-- Map m alone was turned. -/
structure MapTo (m : Nat) (w w' : World) : Prop where
  os : w'.os = w.os
  tape : w'.tape = w.tape
  output : w'.output = w.output
  size : w'.heap.size = w.heap.size
  far : ∀ k, k ≠ m → w'.heap[k]? = w.heap[k]?
theorem sbk_to (w : World) (m : Nat) (o' : Obj) : MapTo m w (setBlock w m o') := ⟨rfl, rfl, rfl, sbk_size w m o', fun k hk => sbk_far hk⟩
section
variable {B : Nat → Prop} {D n : Nat} {room : Int} {L : List FE} {st : DSt} {w : World} (h : DBs B D room L n st w) (s : Nm) (hs : s.length ≤ 1000000)
include h hs
/-- delete(m, s). -/
theorem DBs.del {f : DF} {j : Nat} (e : fdD st s = some f) (hj : st.fs[j]? = some f) (ty : TypeId) : ∀ W : World, W.heap = w.heap → ∃ W', (Builtin.delete_ #[46, 9] ty #[.map (some st.m), nmV s]).run Tryz.prog W = .ok (.tuple #[]) W' ∧ MapTo st.m W W' ∧
    ∀ (es : List MapEntry) (ck : Nat), W.heap[st.m]? = some (.map es.toArray ck) → W'.heap[st.m]? = some (.map (es.eraseIdx j).toArray ck) := by
  intro W hW
  obtain ⟨es, ck, h1, h2, h3⟩ := h.dsk.map
  obtain ⟨l, hl⟩ := nmKey s (by unfold maxLen; omega)
  obtain ⟨x, hx, k1, k2⟩ := ent_at h3 hj
  rw [← hW] at h1
  have hfs := (fdD_some e).2
  refine ⟨_, run_del_some (ty := ty) strLaw mapTy h1 h2 hl hx (by rw [k1, hfs]), sbk_to _ _ _, fun es' ck' he => ?_⟩
  rw [h1] at he
  injection he with he
  injection he with he1 he2
  obtain rfl : es = es' := by simpa using he1
  subst he2
  exact sbk_same h1
/-- m[s] = a pointer; s is not in the map. -/
theorem DBs.put_new (hno : ∀ f ∈ st.fs, f.s ≠ s) (v : Value) : ∀ W : World, W.heap = w.heap → ∃ W', (Instr.mapUpdate 46 (.map (some st.m)) (nmV s) v).run Tryz.prog W = .ok () W' ∧ MapTo st.m W W' ∧
    ∀ (es : List MapEntry) (ck : Nat), W.heap[st.m]? = some (.map es.toArray ck) → W'.heap[st.m]? = some (.map (es ++ [({ key := nmV s, val := v, born := ck } : MapEntry)]).toArray (ck + 1)) := by
  intro W hW
  obtain ⟨es, ck, h1, h2, h3⟩ := h.dsk.map
  obtain ⟨l, hl⟩ := nmKey s (by unfold maxLen; omega)
  rw [← hW] at h1
  refine ⟨_, run_upd_none strLaw mapTy h1 h2 hl (ent_none h3 hno) v, sbk_to _ _ _, fun es' ck' he => ?_⟩
  rw [h1] at he
  injection he with he
  injection he with he1 he2
  obtain rfl : es = es' := by simpa using he1
  subst he2
  exact sbk_same h1
/-- .. s is in the map. -/
theorem DBs.put_old {f : DF} {j : Nat} (e : fdD st s = some f) (hj : st.fs[j]? = some f) (v : Value) : ∀ W : World, W.heap = w.heap → ∃ W', (Instr.mapUpdate 46 (.map (some st.m)) (nmV s) v).run Tryz.prog W = .ok () W' ∧ MapTo st.m W W' ∧
    ∀ (es : List MapEntry) (ck : Nat) (x : MapEntry), W.heap[st.m]? = some (.map es.toArray ck) → es[j]? = some x → W'.heap[st.m]? = some (.map (es.set j { x with val := v }).toArray ck) := by
  intro W hW
  obtain ⟨es, ck, h1, h2, h3⟩ := h.dsk.map
  obtain ⟨l, hl⟩ := nmKey s (by unfold maxLen; omega)
  obtain ⟨x, hx, k1, k2⟩ := ent_at h3 hj
  rw [← hW] at h1
  have hfs := (fdD_some e).2
  refine ⟨_, run_upd_some strLaw mapTy h1 h2 hl hx (by rw [k1, hfs]) v, sbk_to _ _ _, fun es' ck' x' he hx' => ?_⟩
  rw [h1] at he
  injection he with he
  injection he with he1 he2
  obtain rfl : es = es' := by simpa using he1
  subst he2
  rw [hx] at hx'
  injection hx' with hx'
  subst hx'
  exact sbk_same h1
end
end Go.Proofs.YtcmbeolicopicaaGreat
namespace Go.Proofs.YtcmbeolicopicaaGreat
open Go.RowKit Go.Maps Go.ChangeMaps
set_option linter.unusedVariables false
set_option linter.unusedSimpArgs false
set_option maxRecDepth 100000

section
variable {P : Program} {w : World}
theorem step_upd {ops : Array Oper} {o : Oper} {a : Act} {K : Act → World → Prop} {Q : Exit → Act → World → Prop} {E : Prop} (hgd : o.guard = none) (t : TypeId) (m k x : Operand) (ho : o.op = .mapUpdate t m k x) {mv kv xv : Value} {w' : World} (hm : a.eval m = mv) (hk : a.eval k = kv) (hx : a.eval x = xv) (hr : (Instr.mapUpdate t mv kv xv).run P w = .ok () w') (h : K (a.put o.dst undef) w') :
    if Region.wanted o (yielded ops a.tmps) = true then Oper.wp P o a w K Q else E := by
  have hw : Region.wanted o (yielded ops a.tmps) = true := by simp [Region.wanted, hgd]
  rw [if_pos hw]
  subst hm hk hx
  unfold Oper.wp execOp
  simp only [ho, Sem.run_bind, Sem.run_pure, Result.andThen_ok, hr]
  exact h
theorem step_del {ops : Array Oper} {o : Oper} {a : Act} {K : Act → World → Prop} {Q : Exit → Act → World → Prop} {E : Prop} (hgd : o.guard = none) (t kt : TypeId) (m k : Operand) (ho : o.op = .call { callee := .builtin .delete, args := #[m, k], argTypes := #[t, kt] }) {mv kv v : Value} {w' : World} (hm : a.eval m = mv) (hk : a.eval k = kv) (hr : (Builtin.delete_ #[t, kt] o.type #[mv, kv]).run P w = .ok v w') (h : K (a.put o.dst v) w') :
    if Region.wanted o (yielded ops a.tmps) = true then Oper.wp P o a w K Q else E := by
  have hw : Region.wanted o (yielded ops a.tmps) = true := by simp [Region.wanted, hgd]
  rw [if_pos hw]
  subst hm hk
  unfold Oper.wp execOp
  simp only [ho, resolve, invoke, builtin, Sem.run_bind, Sem.run_pure, Result.andThen_ok, List.map_toArray, List.map_cons, List.map_nil, hr]
  exact h
end
theorem MapTo.lv {m : Nat} {w w' : World} (h : MapTo m w w') {B : Nat → Prop} (hm : B m) : Lv B w w' := ⟨h.os, h.tape, h.output, Nat.le_of_eq h.size.symm, fun k _ k2 => h.far k (fun e => k2 (e ▸ hm))⟩
theorem DBs.heap_ {B : Nat → Prop} {D n : Nat} {room : Int} {L : List FE} {st : DSt} {w w' : World} (h : DBs B D room L n st w) (e : w'.heap = w.heap) : DBs B D room L n st w' :=
  ⟨h.dsk.heap_ e, h.room, h.perm, h.srt, h.own, h.hD, fun j q => by rw [e]; exact h.lt j q, h.few, h.nn, h.len⟩
theorem DBs.below {B : Nat → Prop} {D n : Nat} {room : Int} {L : List FE} {st : DSt} {w w' : World} (h : DBs B D room L n st w) (hb : Below w.heap.size w w') : DBs B D room L n st w' :=
  ⟨h.dsk.below hb, h.room, h.perm, h.srt, h.own, h.hD, fun j q => Nat.lt_of_lt_of_le (h.lt j q) hb.size, h.few, h.nn, h.len⟩
section
variable {B : Nat → Prop} {D n : Nat} {room : Int} {L : List FE} {st : DSt} {W : World} (h : DBs B D room L n st W) (s : Nm) (hs : s.length ≤ 1000000)
include h hs
theorem remove1 {f : DF} {j bd bn : Nat} (e : fdD st s = some f) (hj : st.fs[j]? = some f) (hd : Bk W bd 23 [.pointer (some ⟨D, 0, none⟩)]) (hn : Bk W bn 9 [nmV s]) :
    Calls Tryz.prog 59 #[f.val, .pointer (some ⟨bd, 0, none⟩), .pointer (some ⟨bn, 0, none⟩)] W fun e w' => e = .returned (.int .i64 0) ∧ DBs B D room (delF L s) n ⟨st.m, st.room, st.fs.eraseIdx j⟩ w' ∧ Lv B W w' := by
  have c0 := h.dsk.dsk.cell 0
  have b0 := hd.cell 0
  have n0 := hn.cell 0
  simp only [List.getElem?_cons_zero] at c0 b0 n0
  obtain ⟨W', hdel, hmt, hmm⟩ := h.del s hs e hj 0 W.drew rfl
  have hfin := h.eraseF (w' := W') hj (fun k _ k2 => hmt.far k k2) (Nat.le_of_eq hmt.size.symm) ⟨hmt.os, hmt.tape, hmt.output⟩ hmm
  rw [(fdD_some e).2] at hfin
  have HF := Lib.hid hfin
  have hne : ∀ {k t cs}, Bk W k t cs → k ≠ st.m := by
    rintro k t cs hk rfl
    obtain ⟨es, ck, q, _⟩ := h.dsk.map
    rw [hk] at q; cases q
  have hS' : W'.cell? ⟨bd, 0, none⟩ = some (.pointer (some ⟨D, 0, none⟩)) ∧ W'.cell? ⟨bn, 0, none⟩ = some (nmV s) ∧ W'.cell? ⟨D, 0, none⟩ = some (.map (some st.m)) := ⟨(World.cell?_of_block (hmt.far bd (hne hd))).trans b0, (World.cell?_of_block (hmt.far bn (hne hn))).trans n0, (World.cell?_of_block (hmt.far D (hne h.dsk.dsk))).trans c0⟩
  clear hfin hmm hmt
  unfold DF.val
  unfold nmV at *
  go_enter Tryz.func59, Tryz.ntmps59
  go_wp2_with fail
  refine wp_region_held_drew (S := fun w' => w'.cell? ⟨bd, 0, none⟩ = some (.pointer (some ⟨D, 0, none⟩)) ∧ w'.cell? ⟨bn, 0, none⟩ = some (.string ⟨s.toArray⟩) ∧ w'.cell? ⟨D, 0, none⟩ = some (.map (some st.m))) (by kernel_rfl) ⟨by simpa using b0, by simpa using n0, by simpa using c0⟩ (fun hS => ?_)
  refine wpAnyH_take (i := 0) (v := ?_) rfl (by kernel_rfl) (by kernel_rfl) (by kernel_rfl) (fun _ _ _ h => h) (Or.inl ⟨by rfl, ?_⟩) hS ?_
  rotate_left 1
  · intro w' hSw
    go_simp <;> with_reducible rfl
  try simp only [List.getElem_toArray, List.getElem_cons_zero, List.getElem_cons_succ, Act.put, List.setIfInBounds_toArray, List.set_cons_zero, List.set_cons_succ]
  refine wpAnyH_take (i := 1) (v := ?_) rfl (by kernel_rfl) (by kernel_rfl) (by kernel_rfl) (fun _ _ _ h => h) (Or.inl ⟨by rfl, ?_⟩) hS ?_
  rotate_left 1
  · intro w' hSw
    go_simp <;> with_reducible rfl
  try simp only [List.getElem_toArray, List.getElem_cons_zero, List.getElem_cons_succ, Act.put, List.setIfInBounds_toArray, List.set_cons_zero, List.set_cons_succ]
  refine wpAnyH_take (i := 2) (v := ?_) rfl (by kernel_rfl) (by kernel_rfl) (by kernel_rfl) (fun _ _ _ h => h) (Or.inl ⟨by rfl, ?_⟩) hS ?_
  rotate_left 1
  · intro w' hSw
    go_simp <;> with_reducible rfl
  try simp only [List.getElem_toArray, List.getElem_cons_zero, List.getElem_cons_succ, Act.put, List.setIfInBounds_toArray, List.set_cons_zero, List.set_cons_succ]
  refine wpAnyH_take (i := 3) (v := ?_) rfl (by kernel_rfl) (by kernel_rfl) (by kernel_rfl) (fun _ _ _ h => h) (Or.inl ⟨by rfl, ?_⟩) hS ?_
  rotate_left 1
  · intro w' hSw
    go_simp <;> with_reducible rfl
  try simp only [List.getElem_toArray, List.getElem_cons_zero, List.getElem_cons_succ, Act.put, List.setIfInBounds_toArray, List.set_cons_zero, List.set_cons_succ]
  refine wpAnyH_take (i := 4) (v := ?_) rfl (by kernel_rfl) (by kernel_rfl) (by kernel_rfl) (fun _ _ _ h => h) (Or.inl ⟨by rfl, ?_⟩) hS ?_
  rotate_left 1
  · intro w' hSw
    go_simp <;> with_reducible rfl
  try simp only [List.getElem_toArray, List.getElem_cons_zero, List.getElem_cons_succ, Act.put, List.setIfInBounds_toArray, List.set_cons_zero, List.set_cons_succ]
  refine wpAnyH_take (i := 5) (v := ?_) rfl (by kernel_rfl) (by kernel_rfl) (by kernel_rfl) (fun _ _ _ h => h) (Or.inl ⟨by rfl, ?_⟩) hS ?_
  rotate_left 1
  · intro w' hSw
    go_simp <;> with_reducible rfl
  try simp only [List.getElem_toArray, List.getElem_cons_zero, List.getElem_cons_succ, Act.put, List.setIfInBounds_toArray, List.set_cons_zero, List.set_cons_succ]
  refine wpAnyH_ready (rs := [6]) (by kernel_rfl) (by simp) (AllReadyH.cons rfl (fun K hK => ?_) AllReadyH.nil)
  refine step_del (by rfl) 46 9 (.tmp 9) (.tmp 10) (by rfl) (by rfl) (by rfl) hdel ?_
  refine hK _ _ hS' (fun hS => ?_)
  clear hK K
  try simp only [List.getElem_toArray, List.getElem_cons_zero, List.getElem_cons_succ, Act.put, List.setIfInBounds_toArray, List.set_cons_zero, List.set_cons_succ]
  refine wpAnyH_done (by kernel_rfl) ?_ _
  go_wp2_with fail
  go_ret
  exact ⟨rfl, HF.out⟩
/-- with, at Remove's function. -/
theorem remove_with {f : DF} {j bd bn : Nat} (e : fdD st s = some f) (hj : st.fs[j]? = some f) (hd : Bk W bd 23 [.pointer (some ⟨D, 0, none⟩)]) (hn : Bk W bn 9 [nmV s]) :
    Calls Tryz.prog 21 #[.pointer (some ⟨D, 0, none⟩), nmV s, .func (.func 59) #[] #[.pointer (some ⟨bd, 0, none⟩), .pointer (some ⟨bn, 0, none⟩)]] W fun e w' => e = .returned (.int .i64 0) ∧ DBs B D room (delF L s) n ⟨st.m, st.room, st.fs.eraseIdx j⟩ w' ∧ Lv B W w' := by
  have hcl := remove1 h s hs e hj hd hn
  have hl := h.look s hs W rfl
  rw [e] at hl
  unfold lookV at hl
  have hk := known_any D st.m _ W h.dsk.dsk
  have c0 := h.dsk.dsk.cell 0
  simp only [List.getElem?_cons_zero] at c0
  unfold DF.val at hl hcl
  unfold nmV at *
  go_enter Tryz.func21, Tryz.ntmps21
  go_wp2_with fail
  (with_reducible refine hk.mono ?_)
  rintro _ _ ⟨rfl, rfl⟩
  clear hk
  go_wp2_with fail
  (with_reducible refine hcl.mono ?_)
  rintro _ w2 ⟨rfl, hb⟩
  clear hcl hl
  go_wp2_with fail
  go_ret
  exact ⟨rfl, hb⟩
theorem op_remove : Calls Tryz.prog 31 #[.pointer (some ⟨D, 0, none⟩), nmV s] W fun e w' => e = .returned (.int .i64 (if (fd L s).isSome then 0 else 6)) ∧ DDid B D room (delF L s) n W w' := by
  have hb1 : Below W.heap.size W ((W.alloc (.cells #[.pointer (some ⟨D, 0, none⟩)] 23)).alloc (.cells #[nmV s] 9)) := ((Below.refl _ _).alloc (Nat.le_refl _) _).alloc (by simp) _
  have h2 := h.below hb1
  have hd : Bk ((W.alloc (.cells #[.pointer (some ⟨D, 0, none⟩)] 23)).alloc (.cells #[nmV s] 9)) W.heap.size 23 [.pointer (some ⟨D, 0, none⟩)] := (heap_alloc_old _ _ (by simp)).trans (heap_alloc_new W _)
  have hn : Bk ((W.alloc (.cells #[.pointer (some ⟨D, 0, none⟩)] 23)).alloc (.cells #[nmV s] 9)) (W.heap.size + 1) 9 [nmV s] := by
    have := Bk.new (W.alloc (.cells #[.pointer (some ⟨D, 0, none⟩)] 23)) 9 [nmV s]
    rwa [World.size_alloc] at this
  cases e : fd L s with
  | none =>
    have hw := with_none h2 s hs e (.func (.func 59) #[] #[.pointer (some ⟨W.heap.size, 0, none⟩), .pointer (some ⟨W.heap.size + 1, 0, none⟩)])
    have hL : delF L s = L := List.filter_eq_self.2 fun f hf => by simpa using fd_none e f hf
    rw [hL]
    have hsame : DDid B D room L n W ((W.alloc (.cells #[.pointer (some ⟨D, 0, none⟩)] 23)).alloc (.cells #[nmV s] 9)) := DDid.same ⟨st, h⟩ hb1
    unfold nmV at *
    go_enter Tryz.func31, Tryz.ntmps31
    go_wp2_with fail
    (with_reducible refine hw.mono ?_)
    rintro _ _ ⟨rfl, rfl⟩
    clear hw
    go_wp2_with fail
    go_ret
    exact ⟨rfl, hsame⟩
  | some g =>
    obtain ⟨f, j, e1, _, _, hj⟩ := fdD_some_of h e
    have hw := remove_with h2 s hs e1 hj hd hn
    unfold nmV at *
    go_enter Tryz.func31, Tryz.ntmps31
    go_wp2_with fail
    (with_reducible refine hw.mono ?_)
    rintro _ w2 ⟨rfl, q1, q2⟩
    clear hw
    go_wp2_with fail
    go_ret
    exact ⟨rfl, B, fun _ q => .inl q, ⟨_, q1⟩, (Below.lv hb1).trans q2 (fun _ q => .inl q)⟩
end
end Go.Proofs.YtcmbeolicopicaaGreat
