/- disk: bytes put behind a file's. -/
import Derived.Test.YtcmbeolicopicaaDRen2
import Derived.Deep.Upon
namespace Go.Proofs.Ytcmbeolicopicaa
open Go.RowKit Go.Maps Go.ChangeMaps
set_option linter.unusedVariables false
set_option linter.unusedSimpArgs false
set_option maxRecDepth 100000

section
variable {P : Program} {w : World}
theorem wpList_app {ops : Array Oper} {rest : List Oper} {o : Oper} {a : Act} {Q : Exit → Act → World → Prop} (hgd : o.guard = none) (s x : Operand) (t : TypeId)
    (ho : o.op = .call { callee := .builtin .append, args := #[s, x], argTypes := #[t, t] }) {v1 v2 v : Value} {w' : World} (hs : a.eval s = v1) (hx : a.eval x = v2) (hr : (Builtin.append_ #[t, t] o.type #[v1, v2]).run P w = .ok v w')
    (h : wpList P ops Q rest (a.put o.dst v) w') : wpList P ops Q (o :: rest) a w := by
  refine wpList_plain hgd fun K hK => ?_
  subst hs hx
  unfold Oper.wp execOp
  simp only [ho, resolve, invoke, builtin, Sem.run_bind, Sem.run_pure, Result.andThen_ok, List.map_toArray, List.map_cons, List.map_nil, hr]
  exact hK _ _ h
theorem wpList_upd {ops : Array Oper} {rest : List Oper} {o : Oper} {a : Act} {Q : Exit → Act → World → Prop} (hgd : o.guard = none) (t : TypeId) (m k x : Operand) (ho : o.op = .mapUpdate t m k x) {mv kv xv : Value} {w' : World} (hm : a.eval m = mv) (hk : a.eval k = kv) (hx : a.eval x = xv) (hr : (Instr.mapUpdate t mv kv xv).run P w = .ok () w')
    (h : wpList P ops Q rest (a.put o.dst undef) w') : wpList P ops Q (o :: rest) a w := by
  refine wpList_plain hgd fun K hK => ?_
  subst hm hk hx
  unfold Oper.wp execOp
  simp only [ho, Sem.run_bind, Sem.run_pure, Result.andThen_ok, hr]
  exact hK _ _ h
end
/-- append, onto bytes in a block of their own. -/
theorem dat_append {W : World} {A : Option Addr} {c : Nat} {l : List Int} (hd : Dat W (fun _ => True) A c l) {K2 : Nat → Prop} {A2 : Option Addr} {c2 : Nat} {l2 : List Int} (h2 : Rd W K2 A2 c2 (u8s l2)) (hn : l.length + l2.length ≤ 100000000) (ty : TypeId) :
    ∃ A' c' W', (Builtin.append_ #[29, 29] ty #[.slice A l.length c, .slice A2 l2.length c2]).run Try.prog W = .ok (.slice A' (l ++ l2).length c') W' ∧ Dat W' (fun _ => True) A' c' (l ++ l2) ∧ W.grownBy W' (Value.slice A l.length c).ownBlock ∧
      ∀ g, (Value.slice A' (l ++ l2).length c').ownBlock = some g → (Value.slice A l.length c).ownBlock = some g ∨ W.heap.size ≤ g := by
  obtain ⟨i0, hi, hz0, hz1, hz2⟩ : ∃ i0 : TypeInfo, Try.prog.info? 5 = some i0 ∧ i0.zero = some (.int .u8 0) ∧ i0.size = 1 ∧ i0.bytes = 1 := ⟨_, rfl, rfl, rfl, rfl⟩
  by_cases h0 : l2 = []
  · subst h0
    have hlc := hd.rd.2.1
    have hsrc : Src Try.prog i0.size 29 (.slice A2 0 c2) 0 [] W := by
      cases A2 with
      | none => exact Src.ofNil W (Try.underlying29) c2
      | some a => exact Src.ofSlice W (Try.underlying29) a 0 c2 [] (by simp) (by intro j u hu; simp at hu) (by simp)
    have hr := run_append_nothing (P := Try.prog) W 29 29 ty 5 i0 Try.underlying29 hi A l.length c hlc (.slice A2 0 c2) hsrc
    refine ⟨A, c, W, ?_, ?_, ⟨rfl, rfl, rfl, Nat.le_refl _, fun _ _ _ => rfl⟩, fun g hg => .inl (by rw [List.append_nil] at hg; exact hg)⟩
    · rw [List.append_nil]; exact hr
    · rw [List.append_nil]; exact hd
  · obtain ⟨b, hrow, hb⟩ := hd
    obtain ⟨a, rfl, _, hc⟩ := h2.2 (by intro e; exact h0 (List.map_eq_nil_iff.1 e))
    have hm : 0 < l2.length := by cases l2 with | nil => exact absurd rfl h0 | cons => simp
    obtain ⟨v', w', g', hr, hrow', hgr, hv', hg', hlt⟩ := run_append_row (P := Try.prog) W 29 ty 5 i0 (.int .u8 0) 1 1 Try.underlying29 hi hz0 hz1 hz2 rfl (.slice A l.length c) b l.length (u8s l) hrow a l2.length c2 (u8s l2) (by simp) hc (u8s_one _) (by unfold maxLen; omega) (by omega) hm
    rw [← List.length_append, ← u8s_app] at hrow'
    have hsh : ∃ A' c', v' = .slice A' (l ++ l2).length c' := by
      rcases hrow'.2 with ⟨e1, e2⟩ | ⟨cap, cur, e1, _⟩
      · exact ⟨none, 0, by rw [e1, e2]⟩
      · exact ⟨_, _, e1⟩
    obtain ⟨A', c', rfl⟩ := hsh
    refine ⟨A', c', w', hr, ⟨g', hrow', fun _ => ⟨trivial, hlt⟩⟩, hgr, fun g hg => ?_⟩
    rw [hv'] at hg
    injection hg with hg
    subst hg
    rcases hg' with q | ⟨q1, q2⟩
    · exact .inr (Nat.le_of_eq q.symm)
    · exact .inl (by rw [q1]; exact q2)
section
variable {B : Nat → Prop} {D n : Nat} {room : Int} {L : List FE} {w w' : World}
/-- A file was turned, its struct still where it was; the disk told whole. -/
theorem DBs.setFs {st : DSt} (h : DBs B D room L n st w) {j : Nat} {f f' : DF} (hj : st.fs[j]? = some f) (e1 : f'.s = f.s) (e2 : f'.g = f.g) (hf : FAt w' f')
    (hnew : ∀ b, f'.dv.ownBlock = some b → f.dv.ownBlock = some b ∨ w.heap.size ≤ b) (hk : ∀ k, k < w.heap.size → k ≠ f.g → f.dv.ownBlock ≠ some k → w'.heap[k]? = w.heap[k]?) (hs : w.heap.size ≤ w'.heap.size) (ho : w'.os = w.os ∧ w'.tape = w.tape ∧ w'.output = w.output) :
    DBs (fun k => (B k ∨ w.heap.size ≤ k) ∧ k < w'.heap.size) D room (putF L f'.fe) n ⟨st.m, st.room, st.fs.set j f'⟩ w' ∧ Lv B w w' := by
  have hmem := List.mem_of_getElem? hj
  have hm : (st.fs.map DF.fe)[j]? = some f.fe := by rw [List.getElem?_map, hj]; rfl
  have hd := h.dsk.setFile hj e1 e2 hf hnew hk hs
  have hp : ((st.fs.set j f').map DF.fe).Perm (putF L f'.fe) := by
    rw [show (st.fs.set j f').map DF.fe = (st.fs.map DF.fe).set j f'.fe by rw [List.map_set]]
    exact perm_set h.dsk.dis h.srt h.perm hm e1
  refine ⟨⟨hd, h.room, hp, srt_putF h.srt _, fun k q => ⟨?_, hd.olt q⟩, ⟨.inl h.hD, Nat.lt_of_lt_of_le (h.lt _ h.hD) hs⟩, fun k q => q.2, ?_, h.nn, fun x hx => ?_⟩, ⟨ho.1, ho.2.1, ho.2.2, hs, fun k k1 k2 => hk k k1 (fun e => k2 (h.own k (.inr ⟨f, hmem, .inl e.symm⟩))) (fun e => k2 (h.own k (.inr ⟨f, hmem, .inr e⟩)))⟩⟩
  · rcases q with rfl | ⟨x, hx, q⟩
    · exact .inl (h.own _ (.inl rfl))
    · rcases List.mem_or_eq_of_mem_set hx with hx | rfl
      · exact .inl (h.own k (.inr ⟨x, hx, q⟩))
      · rcases q with q | q
        · exact .inl (h.own k (.inr ⟨f, hmem, .inl (by rw [← e2]; exact q)⟩))
        · rcases hnew k q with q | q
          · exact .inl (h.own k (.inr ⟨f, hmem, .inr q⟩))
          · exact .inr q
  · have := hp.length_eq
    rw [List.length_map, List.length_set] at this
    have h2 := h.perm.length_eq
    rw [List.length_map] at h2
    have := h.few
    omega
  · rcases mem_putF.1 hx with rfl | ⟨hx, _⟩
    · exact ⟨hf.len, hf.nl, hf.sl⟩
    · exact h.len x hx
/-- A file is put where it is. -/
theorem DBs.putSame {st : DSt} (h : DBs B D room L n st w) {f : DF} {j : Nat} (hj : st.fs[j]? = some f) :
    ∃ W', (Instr.mapUpdate 45 (.map (some st.m)) (nmV f.s) f.val).run Try.prog w = .ok () W' ∧ DBs B D room L n st W' ∧ Lv B w W' := by
  obtain ⟨es, ck, h1, h2, h3⟩ := h.dsk.map
  have hmem := List.mem_of_getElem? hj
  have hsl := (h.dsk.file f hmem).sl
  obtain ⟨l, hl⟩ := nmKey f.s (by unfold maxLen; omega)
  obtain ⟨x, hx, k1, k2⟩ := ent_at h3 hj
  have hr := run_upd_some strLaw mapTy h1 h2 hl hx k1 f.val
  have hx2 : ({ x with val := f.val } : MapEntry) = x := by rw [← k2]
  have hes : es.set j x = es := by
    refine List.ext_getElem? fun i => ?_
    rw [List.getElem?_set]
    split
    · next q => subst q; rw [if_pos (List.getElem?_eq_some_iff.1 hx).1, hx]
    · rfl
  rw [hx2, hes] at hr
  have hall : ∀ k : Nat, (setBlock w st.m (.map es.toArray ck)).heap[k]? = w.heap[k]? := by
    intro k
    by_cases hk : k = st.m
    · subst hk; rw [sbk_same h1, h1]
    · exact sbk_far hk
  have hsz := sbk_size w st.m (.map es.toArray ck)
  exact ⟨setBlock w st.m (.map es.toArray ck), hr, ⟨h.dsk.keep (w' := setBlock w st.m (.map es.toArray ck)) (hall _) (fun k _ => hall k) (Nat.le_of_eq hsz.symm), h.room, h.perm, h.srt, h.own, h.hD, fun j q => by rw [hsz]; exact h.lt j q, h.few, h.nn, h.len⟩, ⟨rfl, rfl, rfl, Nat.le_of_eq hsz.symm, fun k _ _ => hall k⟩⟩
end
end Go.Proofs.Ytcmbeolicopicaa

