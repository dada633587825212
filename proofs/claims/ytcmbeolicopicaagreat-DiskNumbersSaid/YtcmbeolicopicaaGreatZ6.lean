/- disk: bytes put behind a file's. disk: Append. disk: Append to no file. -/
import Derived.Deep.Upon
import Derived.Test.YtcmbeolicopicaaGreatZ5
namespace Go.Proofs.YtcmbeolicopicaaGreat
open Go.RowKit Go.Maps Go.ChangeMaps
set_option linter.unusedVariables false
set_option linter.unusedSimpArgs false
set_option maxRecDepth 100000

section
variable {P : Program} {w : World}
theorem wpList_app {ops : Array Oper} {rest : List Oper} {o : Oper} {a : Act} {Q : Exit → Act → World → Prop} (hgd : o.guard = none) (s x : Operand) (t : TypeId)
    (ho : o.op = .call { callee := .builtin .append, args := #[s, x], argTypes := #[t, t] }) {v1 v2 v : Value} {w' : World} (hs : a.eval s = v1) (hx : a.eval x = v2) (hr : (Builtin.append_ #[t, t] o.type #[v1, v2]).run P w = .ok v w')
    (h : wpList P ops Q rest (a.put o.dst v) w') : wpList P ops Q (o :: rest) a w := by
  refine wpList_plain hgd fun K hK => ?_
  subst hs hx
  unfold Oper.wp execOp
  simp only [ho, resolve, invoke, builtin, Sem.run_bind, Sem.run_pure, Result.andThen_ok, List.map_toArray, List.map_cons, List.map_nil, hr]
  exact hK _ _ h
theorem wpList_upd {ops : Array Oper} {rest : List Oper} {o : Oper} {a : Act} {Q : Exit → Act → World → Prop} (hgd : o.guard = none) (t : TypeId) (m k x : Operand) (ho : o.op = .mapUpdate t m k x) {mv kv xv : Value} {w' : World} (hm : a.eval m = mv) (hk : a.eval k = kv) (hx : a.eval x = xv) (hr : (Instr.mapUpdate t mv kv xv).run P w = .ok () w')
    (h : wpList P ops Q rest (a.put o.dst undef) w') : wpList P ops Q (o :: rest) a w := by
  refine wpList_plain hgd fun K hK => ?_
  subst hm hk hx
  unfold Oper.wp execOp
  simp only [ho, Sem.run_bind, Sem.run_pure, Result.andThen_ok, hr]
  exact hK _ _ h
end
/-- append, onto bytes in a block of their own. -/
theorem dat_append {W : World} {A : Option Addr} {c : Nat} {l : List Int} (hd : Dat W (fun _ => True) A c l) {K2 : Nat → Prop} {A2 : Option Addr} {c2 : Nat} {l2 : List Int} (h2 : Rd W K2 A2 c2 (u8s l2)) (hn : l.length + l2.length ≤ 100000000) (ty : TypeId) :
    ∃ A' c' W', (Builtin.append_ #[29, 29] ty #[.slice A l.length c, .slice A2 l2.length c2]).run Tryz.prog W = .ok (.slice A' (l ++ l2).length c') W' ∧ Dat W' (fun _ => True) A' c' (l ++ l2) ∧ W.grownBy W' (Value.slice A l.length c).ownBlock ∧
      ∀ g, (Value.slice A' (l ++ l2).length c').ownBlock = some g → (Value.slice A l.length c).ownBlock = some g ∨ W.heap.size ≤ g := by
  obtain ⟨i0, hi, hz0, hz1, hz2⟩ : ∃ i0 : TypeInfo, Tryz.prog.info? 5 = some i0 ∧ i0.zero = some (.int .u8 0) ∧ i0.size = 1 ∧ i0.bytes = 1 := ⟨_, rfl, rfl, rfl, rfl⟩
  by_cases h0 : l2 = []
  · subst h0
    have hlc := hd.rd.2.1
    have hsrc : Src Tryz.prog i0.size 29 (.slice A2 0 c2) 0 [] W := by
      cases A2 with
      | none => exact Src.ofNil W (Tryz.underlying29) c2
      | some a => exact Src.ofSlice W (Tryz.underlying29) a 0 c2 [] (by simp) (by intro j u hu; simp at hu) (by simp)
    have hr := run_append_nothing (P := Tryz.prog) W 29 29 ty 5 i0 Tryz.underlying29 hi A l.length c hlc (.slice A2 0 c2) hsrc
    refine ⟨A, c, W, ?_, ?_, ⟨rfl, rfl, rfl, Nat.le_refl _, fun _ _ _ => rfl⟩, fun g hg => .inl (by rw [List.append_nil] at hg; exact hg)⟩
    · rw [List.append_nil]; exact hr
    · rw [List.append_nil]; exact hd
  · obtain ⟨b, hrow, hb⟩ := hd
    obtain ⟨a, rfl, _, hc⟩ := h2.2 (by intro e; exact h0 (List.map_eq_nil_iff.1 e))
    have hm : 0 < l2.length := by cases l2 with | nil => exact absurd rfl h0 | cons => simp
    obtain ⟨v', w', g', hr, hrow', hgr, hv', hg', hlt⟩ := run_append_row (P := Tryz.prog) W 29 ty 5 i0 (.int .u8 0) 1 1 Tryz.underlying29 hi hz0 hz1 hz2 rfl (.slice A l.length c) b l.length (u8s l) hrow a l2.length c2 (u8s l2) (by simp) hc (u8s_one _) (by unfold maxLen; omega) (by omega) hm
    rw [← List.length_append, ← u8s_app] at hrow'
    have hsh : ∃ A' c', v' = .slice A' (l ++ l2).length c' := by
      rcases hrow'.2 with ⟨e1, e2⟩ | ⟨cap, cur, e1, _⟩
      · exact ⟨none, 0, by rw [e1, e2]⟩
      · exact ⟨_, _, e1⟩
    obtain ⟨A', c', rfl⟩ := hsh
    refine ⟨A', c', w', hr, ⟨g', hrow', fun _ => ⟨trivial, hlt⟩⟩, hgr, fun g hg => ?_⟩
    rw [hv'] at hg
    injection hg with hg
    subst hg
    rcases hg' with q | ⟨q1, q2⟩
    · exact .inr (Nat.le_of_eq q.symm)
    · exact .inl (by rw [q1]; exact q2)
section
variable {B : Nat → Prop} {D n : Nat} {room : Int} {L : List FE} {w w' : World}
/-- A file was turned, its struct still where it was; the disk told whole. -/
theorem DBs.setFs {st : DSt} (h : DBs B D room L n st w) {j : Nat} {f f' : DF} (hj : st.fs[j]? = some f) (e1 : f'.s = f.s) (e2 : f'.g = f.g) (hf : FAt w' f')
    (hnew : ∀ b, f'.dv.ownBlock = some b → f.dv.ownBlock = some b ∨ w.heap.size ≤ b) (hk : ∀ k, k < w.heap.size → k ≠ f.g → f.dv.ownBlock ≠ some k → w'.heap[k]? = w.heap[k]?) (hs : w.heap.size ≤ w'.heap.size) (ho : w'.os = w.os ∧ w'.tape = w.tape ∧ w'.output = w.output) :
    DBs (fun k => (B k ∨ w.heap.size ≤ k) ∧ k < w'.heap.size) D room (putF L f'.fe) n ⟨st.m, st.room, st.fs.set j f'⟩ w' ∧ Lv B w w' := by
  have hmem := List.mem_of_getElem? hj
  have hm : (st.fs.map DF.fe)[j]? = some f.fe := by rw [List.getElem?_map, hj]; rfl
  have hd := h.dsk.setFile hj e1 e2 hf hnew hk hs
  have hp : ((st.fs.set j f').map DF.fe).Perm (putF L f'.fe) := by
    rw [show (st.fs.set j f').map DF.fe = (st.fs.map DF.fe).set j f'.fe by rw [List.map_set]]
    exact perm_set h.dsk.dis h.srt h.perm hm e1
  refine ⟨⟨hd, h.room, hp, srt_putF h.srt _, fun k q => ⟨?_, hd.olt q⟩, ⟨.inl h.hD, Nat.lt_of_lt_of_le (h.lt _ h.hD) hs⟩, fun k q => q.2, ?_, h.nn, fun x hx => ?_⟩, ⟨ho.1, ho.2.1, ho.2.2, hs, fun k k1 k2 => hk k k1 (fun e => k2 (h.own k (.inr ⟨f, hmem, .inl e.symm⟩))) (fun e => k2 (h.own k (.inr ⟨f, hmem, .inr e⟩)))⟩⟩
  · rcases q with rfl | ⟨x, hx, q⟩
    · exact .inl (h.own _ (.inl rfl))
    · rcases List.mem_or_eq_of_mem_set hx with hx | rfl
      · exact .inl (h.own k (.inr ⟨x, hx, q⟩))
      · rcases q with q | q
        · exact .inl (h.own k (.inr ⟨f, hmem, .inl (by rw [← e2]; exact q)⟩))
        · rcases hnew k q with q | q
          · exact .inl (h.own k (.inr ⟨f, hmem, .inr q⟩))
          · exact .inr q
  · have := hp.length_eq
    rw [List.length_map, List.length_set] at this
    have h2 := h.perm.length_eq
    rw [List.length_map] at h2
    have := h.few
    omega
  · rcases mem_putF.1 hx with rfl | ⟨hx, _⟩
    · exact ⟨hf.len, hf.nl, hf.sl⟩
    · exact h.len x hx
/-- A file is put where it is. -/
theorem DBs.putSame {st : DSt} (h : DBs B D room L n st w) {f : DF} {j : Nat} (hj : st.fs[j]? = some f) :
    ∃ W', (Instr.mapUpdate 46 (.map (some st.m)) (nmV f.s) f.val).run Tryz.prog w = .ok () W' ∧ DBs B D room L n st W' ∧ Lv B w W' := by
  obtain ⟨es, ck, h1, h2, h3⟩ := h.dsk.map
  have hmem := List.mem_of_getElem? hj
  have hsl := (h.dsk.file f hmem).sl
  obtain ⟨l, hl⟩ := nmKey f.s (by unfold maxLen; omega)
  obtain ⟨x, hx, k1, k2⟩ := ent_at h3 hj
  have hr := run_upd_some strLaw mapTy h1 h2 hl hx k1 f.val
  have hx2 : ({ x with val := f.val } : MapEntry) = x := by rw [← k2]
  have hes : es.set j x = es := by
    refine List.ext_getElem? fun i => ?_
    rw [List.getElem?_set]
    split
    · next q => subst q; rw [if_pos (List.getElem?_eq_some_iff.1 hx).1, hx]
    · rfl
  rw [hx2, hes] at hr
  have hall : ∀ k : Nat, (setBlock w st.m (.map es.toArray ck)).heap[k]? = w.heap[k]? := by
    intro k
    by_cases hk : k = st.m
    · subst hk; rw [sbk_same h1, h1]
    · exact sbk_far hk
  have hsz := sbk_size w st.m (.map es.toArray ck)
  exact ⟨setBlock w st.m (.map es.toArray ck), hr, ⟨h.dsk.keep (w' := setBlock w st.m (.map es.toArray ck)) (hall _) (fun k _ => hall k) (Nat.le_of_eq hsz.symm), h.room, h.perm, h.srt, h.own, h.hD, fun j q => by rw [hsz]; exact h.lt j q, h.few, h.nn, h.len⟩, ⟨rfl, rfl, rfl, Nat.le_of_eq hsz.symm, fun k _ _ => hall k⟩⟩
end
end Go.Proofs.YtcmbeolicopicaaGreat
namespace Go.Proofs.YtcmbeolicopicaaGreat
open Go.RowKit Go.Maps Go.ChangeMaps
set_option linter.unusedVariables false
set_option linter.unusedSectionVars false
set_option linter.unusedSimpArgs false
set_option maxRecDepth 100000

def oldF (L : List FE) (s : Nm) : List Int := match fd L s with | some f => f.l | none => []
def oldN (L : List FE) (s : Nm) : Nat := match fd L s with | some f => f.n | none => 0
def appE (room : Int) (L : List FE) (s : Nm) (l : List Int) : Int := if !okN s then 2 else if 8388608 < (oldF L s).length + l.length then 3 else if room < usedF L + l.length then 5 else 0
def appL (room : Int) (L : List FE) (s : Nm) (l : List Int) : List FE := if appE room L s l = 0 then putF L ⟨s, oldF L s ++ l, oldN L s⟩ else L
theorem Dat.keep' {w w' : World} {K : Nat → Prop} {A : Option Addr} {c : Nat} {l : List Int} (h : Dat w K A c l) (hk : ∀ b, (Value.slice A l.length c).ownBlock = some b → b < w.heap.size → w'.heap[b]? = w.heap[b]?) (hs : w.heap.size ≤ w'.heap.size) : Dat w' K A c l := by
  obtain ⟨b, h1, h2⟩ := h
  exact ⟨b, h1.keep (fun e => hk b e (h2 e).2), fun e => ⟨(h2 e).1, Nat.lt_of_lt_of_le (h2 e).2 hs⟩⟩
section
variable {B : Nat → Prop} {D n : Nat} {room : Int} {L : List FE} {w : World} (h : DB B D room L n w) (s : Nm) (hs : s.length ≤ 1000000) {K : Nat → Prop} {A : Option Addr} {c : Nat} {l : List Int} (ha : Rd w K A c (u8s l)) (hK : ∀ b, K b → b < w.heap.size) (hl : l.length ≤ 8388609)
include h hs ha hK hl
theorem app_bad (eo : okN s = false) : Calls Tryz.prog 16 #[.pointer (some ⟨D, 0, none⟩), nmV s, .slice A l.length c] w fun e w' => e = .returned (.int .i64 (appE room L s l)) ∧ DDid B D room (appL room L s l) n w w' := by
  obtain ⟨st, h⟩ := h
  have hk := known_any D st.m _ _ h.dsk.dsk
  have hr := right_any _ _ _ [s] _ (rd_new w 9 [nmV s]) (by rintro b rfl; simp) (by simpa using hs) (by simp)
  simp only [List.length_cons, List.length_nil, Nat.zero_add, Nat.reduceAdd] at hr
  have hb0 : Below w.heap.size w (w.alloc (.cells #[nmV s] 9)) := (Below.refl _ _).alloc (Nat.le_refl _) _
  unfold nmV at *
  go_enter Tryz.func16, Tryz.ntmps16
  go_wp2_with fail
  (with_reducible refine hk.mono ?_)
  rintro _ _ ⟨rfl, rfl⟩
  clear hk
  go_wp2_with fail
  (with_reducible refine hr.mono ?_)
  rintro _ w1 ⟨rfl, hb1⟩
  clear hr
  replace hb1 := hb0.trans (hb1.mono hb0.size)
  have : [s].all okN = false := by simpa using eo
  rw [this]
  go_wp2_with fail
  go_ret
  have hE : appE room L s l = 2 := by unfold appE; rw [eo]; rfl
  have hL : appL room L s l = L := by unfold appL; rw [hE]; rfl
  exact ⟨by rw [hE]; rfl, by rw [hL]; exact DDid.same ⟨st, h⟩ hb1⟩
theorem app_old (eo : okN s = true) {g : FE} (eg : fd L s = some g) : Calls Tryz.prog 16 #[.pointer (some ⟨D, 0, none⟩), nmV s, .slice A l.length c] w fun e w' => e = .returned (.int .i64 (appE room L s l)) ∧ DDid B D room (appL room L s l) n w w' := by
  obtain ⟨st, h⟩ := h
  have hk := known_any D st.m _ _ h.dsk.dsk
  have hr := right_any _ _ _ [s] _ (rd_new w 9 [nmV s]) (by rintro b rfl; simp) (by simpa using hs) (by simp)
  simp only [List.length_cons, List.length_nil, Nat.zero_add, Nat.reduceAdd] at hr
  have hb0 : Below w.heap.size w (w.alloc (.cells #[nmV s] 9)) := (Below.refl _ _).alloc (Nat.le_refl _) _
  unfold nmV at *
  go_enter Tryz.func16, Tryz.ntmps16
  go_wp2_with fail
  (with_reducible refine hk.mono ?_)
  rintro _ _ ⟨rfl, rfl⟩
  clear hk
  go_wp2_with fail
  (with_reducible refine hr.mono ?_)
  rintro _ w1 ⟨rfl, hb1⟩
  clear hr
  replace hb1 := hb0.trans (hb1.mono hb0.size)
  have : [s].all okN = true := by simpa using eo
  rw [this]
  have h1 := h.below hb1
  have hlk := h1.look s hs w1 rfl
  obtain ⟨f, j, e1, e2, e3, hj⟩ := fdD_some_of h eg
  rw [e1] at hlk
  unfold lookV at hlk
  have c0 := h1.dsk.dsk.cell 0
  have c1 := h1.dsk.dsk.cell 1
  have hF := h1.dsk.file f (List.mem_of_getElem? hj)
  have q0 := hF.bk.cell 0
  have z0 := hF.bk.frozen 0
  simp only [List.getElem?_cons_zero, List.getElem?_cons_succ, DF.dv] at c0 c1 q0
  have hfl := hF.len
  unfold DF.val at hlk
  unfold nmV at *
  go_wp2_with fail
  · next hlong =>
    have HG := Lib.hid hlong
    go_ret
    have hE : appE room L s l = 3 := by unfold appE oldF; rw [eo, eg, ← e2, if_neg (by simp), if_pos (by have := HG.out; simp only [DF.fe]; omega)]
    have hL : appL room L s l = L := by unfold appL; rw [hE]; rfl
    exact ⟨by rw [hE]; rfl, by rw [hL]; exact DDid.same ⟨st, h⟩ hb1⟩
  · next hlong =>
    have hU := (show DB B D room L n w1 from ⟨st, h1⟩).used_le
    have HG := Lib.hid hlong
    have hrm := h.room
    refine wp_region_held_drew (S := fun w' => w'.cell? ⟨D, 1, none⟩ = some (.int .i64 st.room)) (by kernel_rfl) c1 (fun hS => ?_)
    refine wpAnyH_take (i := 0) (v := ?_) rfl (by kernel_rfl) (by kernel_rfl) (by kernel_rfl) (fun _ _ _ h => h) (Or.inl ⟨by rfl, ?_⟩) hS ?_
    rotate_left 1
    · intro w' hSw
      go_simp <;> with_reducible rfl
    try simp only [List.getElem_toArray, List.getElem_cons_zero, List.getElem_cons_succ, Act.put, List.setIfInBounds_toArray, List.set_cons_zero, List.set_cons_succ]
    refine wpAnyH_take (i := 1) (v := ?_) rfl (by kernel_rfl) (by kernel_rfl) (by kernel_rfl) (fun _ _ _ h => h) (Or.inl ⟨by rfl, ?_⟩) hS ?_
    rotate_left 1
    · intro w' hSw
      go_simp <;> with_reducible rfl
    try simp only [List.getElem_toArray, List.getElem_cons_zero, List.getElem_cons_succ, Act.put, List.setIfInBounds_toArray, List.set_cons_zero, List.set_cons_succ]
    refine wpAnyH_take (i := 2) (v := ?_) rfl (by kernel_rfl) (by kernel_rfl) (by kernel_rfl) (fun _ _ _ h => h) (Or.inl ⟨by rfl, ?_⟩) hS ?_
    rotate_left 1
    · intro w' hSw
      go_simp <;> with_reducible rfl
    try simp only [List.getElem_toArray, List.getElem_cons_zero, List.getElem_cons_succ, Act.put, List.setIfInBounds_toArray, List.set_cons_zero, List.set_cons_succ]
    refine wpAnyH_take (i := 4) (v := ?_) rfl (by kernel_rfl) (by kernel_rfl) (by kernel_rfl) (fun _ _ _ h => h) (Or.inl ⟨by rfl, ?_⟩) hS ?_
    rotate_left 1
    · intro w' hSw
      go_simp <;> with_reducible rfl
    try simp only [List.getElem_toArray, List.getElem_cons_zero, List.getElem_cons_succ, Act.put, List.setIfInBounds_toArray, List.set_cons_zero, List.set_cons_succ]
    refine wpAnyH_take (i := 5) (v := ?_) rfl (by kernel_rfl) (by kernel_rfl) (by kernel_rfl) (fun _ _ _ h => h) (Or.inl ⟨by rfl, ?_⟩) hS ?_
    rotate_left 1
    · intro w' hSw
      go_simp <;> with_reducible rfl
    try simp only [List.getElem_toArray, List.getElem_cons_zero, List.getElem_cons_succ, Act.put, List.setIfInBounds_toArray, List.set_cons_zero, List.set_cons_succ]
    refine wpAnyH_take (i := 7) (v := ?_) rfl (by kernel_rfl) (by kernel_rfl) (by kernel_rfl) (fun _ _ _ h => h) (Or.inl ⟨by rfl, ?_⟩) hS ?_
    rotate_left 1
    · intro w' hSw
      go_simp <;> with_reducible rfl
    try simp only [List.getElem_toArray, List.getElem_cons_zero, List.getElem_cons_succ, Act.put, List.setIfInBounds_toArray, List.set_cons_zero, List.set_cons_succ]
    refine wpAnyH_take (i := 8) (v := ?_) rfl (by kernel_rfl) (by kernel_rfl) (by kernel_rfl) (fun _ _ _ h => h) (Or.inl ⟨by rfl, ?_⟩) hS ?_
    rotate_left 1
    · intro w' hSw
      go_simp <;> with_reducible rfl
    try simp only [List.getElem_toArray, List.getElem_cons_zero, List.getElem_cons_succ, Act.put, List.setIfInBounds_toArray, List.set_cons_zero, List.set_cons_succ]
    refine wpAnyH_take (i := 9) (v := ?_) rfl (by kernel_rfl) (by kernel_rfl) (by kernel_rfl) (fun _ _ _ h => h) (Or.inl ⟨by rfl, ?_⟩) hS ?_
    rotate_left 1
    · intro w' hSw
      go_simp <;> with_reducible rfl
    try simp only [List.getElem_toArray, List.getElem_cons_zero, List.getElem_cons_succ, Act.put, List.setIfInBounds_toArray, List.set_cons_zero, List.set_cons_succ]
    refine wpAnyH_take (i := 10) (v := ?_) rfl (by kernel_rfl) (by kernel_rfl) (by kernel_rfl) (fun _ _ _ h => h) (Or.inl ⟨by rfl, ?_⟩) hS ?_
    rotate_left 1
    · intro w' hSw
      go_simp <;> with_reducible rfl
    try simp only [List.getElem_toArray, List.getElem_cons_zero, List.getElem_cons_succ, Act.put, List.setIfInBounds_toArray, List.set_cons_zero, List.set_cons_succ]
    refine wpAnyH_take (i := 11) (v := ?_) rfl (by kernel_rfl) (by kernel_rfl) (by kernel_rfl) (fun _ _ _ h => h) (Or.inl ⟨by rfl, ?_⟩) hS ?_
    rotate_left 1
    · intro w' hSw
      go_simp <;> with_reducible rfl
    try simp only [List.getElem_toArray, List.getElem_cons_zero, List.getElem_cons_succ, Act.put, List.setIfInBounds_toArray, List.set_cons_zero, List.set_cons_succ]
    refine wpAnyH_ready (rs := [3]) (by kernel_rfl) (by simp) (AllReadyH.cons rfl (fun K hK => ?_) AllReadyH.nil)
    go_simp
    (with_reducible refine (used_any D st w1.drew (h1.dsk.heap_ rfl) h1.few').mono ?_)
    rintro _ w2 ⟨rfl, hb2⟩
    rw [h1.used]
    have hw2 : Below w1.heap.size w1 w2 := (Below.refl w1.heap.size w1).drew.trans hb2
    go_simp
    refine hK _ _ ((h1.dsk.below hw2).dsk.cell 1) (fun hS => ?_)
    clear hK K
    try simp only [List.getElem_toArray, List.getElem_cons_zero, List.getElem_cons_succ, Act.put, List.setIfInBounds_toArray, List.set_cons_zero, List.set_cons_succ]
    refine wpAnyH_take (i := 6) (v := ?_) rfl (by kernel_rfl) (by kernel_rfl) (by kernel_rfl) (fun _ _ _ h => h) (Or.inl ⟨by rfl, ?_⟩) hS ?_
    rotate_left 1
    · intro w' hSw
      go_simp <;> with_reducible rfl
    try simp only [List.getElem_toArray, List.getElem_cons_zero, List.getElem_cons_succ, Act.put, List.setIfInBounds_toArray, List.set_cons_zero, List.set_cons_succ]
    refine wpAnyH_take (i := 12) (v := ?_) rfl (by kernel_rfl) (by kernel_rfl) (by kernel_rfl) (fun _ _ _ h => h) (Or.inl ⟨by rfl, ?_⟩) hS ?_
    rotate_left 1
    · intro w' hSw
      go_simp <;> with_reducible rfl
    try simp only [List.getElem_toArray, List.getElem_cons_zero, List.getElem_cons_succ, Act.put, List.setIfInBounds_toArray, List.set_cons_zero, List.set_cons_succ]
    refine wpAnyH_take (i := 13) (v := ?_) rfl (by kernel_rfl) (by kernel_rfl) (by kernel_rfl) (fun _ _ _ h => h) (Or.inl ⟨by rfl, ?_⟩) hS ?_
    rotate_left 1
    · intro w' hSw
      go_simp <;> with_reducible rfl
    try simp only [List.getElem_toArray, List.getElem_cons_zero, List.getElem_cons_succ, Act.put, List.setIfInBounds_toArray, List.set_cons_zero, List.set_cons_succ]
    refine wpAnyH_done (by kernel_rfl) ?_ _
    have h2 := h1.below hw2
    have hF2 := h2.dsk.file f (List.mem_of_getElem? hj)
    have q02 := hF2.bk.cell 0
    have z02 := hF2.bk.frozen 0
    have c02 := h2.dsk.dsk.cell 0
    simp only [List.getElem?_cons_zero, List.getElem?_cons_succ, DF.dv] at q02 c02
    have hbw := hb1.trans (hw2.mono hb1.size)
    have ha2 := ha.keep (K' := K) (w' := w2) (fun b q => hbw.block b (hK b q)) (fun _ q => q)
    obtain ⟨A3, c3, w3, hrun, hd3, hgr, hown⟩ := dat_append hF2.dat ha2 (by omega) 29
    have hwr : IntKind.i64.wrap ((usedF L : Int) + (l.length : Int)) = (usedF L : Int) + (l.length : Int) := IntWalk.i64_in _ (by omega)
    have hmm := List.mem_of_getElem? hj
    have hno := h2.dsk.gd hmm hmm
    have hF3 : Bk w3 f.g 62 [f.dv, .int .i64 f.n] := (hgr.block _ hF2.bk.lt (fun e => hno e.symm)).trans hF2.bk
    have q03 := hF3.cell 0
    have z03 := hF3.frozen 0
    simp only [List.getElem?_cons_zero] at q03
    have h4 := h2.setFs (w' := w3.setCell ⟨f.g, 0, none⟩ (.slice A3 (f.l ++ l).length c3)) (f' := ⟨f.s, f.g, A3, c3, f.l ++ l, f.n⟩) hj rfl rfl
      ⟨hF3.set 0 _, hd3.keep' (fun b e _ => Below.heap_setCell _ _ _ b (fun q => by
        have q : b = f.g := q
        subst q
        rcases hown _ e with q | q
        · exact hno q
        · have := hF2.bk.lt; omega)) (by simp [World.setCell]), by have := HG.out; simp; omega, by have := hF2.nl; simp; omega, hF2.sl⟩
      (fun b e => hown b e) (fun k k1 k2 k3 => (Below.heap_setCell _ _ _ k k2).trans (hgr.block k k1 (fun e => k3 e.symm))) (by simp [World.setCell]; exact hgr.size) ⟨hgr.os, hgr.tape, hgr.output⟩
    obtain ⟨h4, hv4⟩ := h4
    have c04 := h4.dsk.dsk.cell 0
    simp only [List.getElem?_cons_zero] at c04
    obtain ⟨w5, hput, h5, hv5⟩ := h4.putSame (j := j) (f := ⟨f.s, f.g, A3, c3, f.l ++ l, f.n⟩) (by rw [List.getElem?_set, if_pos rfl, if_pos (List.getElem?_eq_some_iff.1 hj).1])
    have HF := Lib.hid (show DDid B D room (putF L ⟨f.s, f.l ++ l, f.n⟩) n w w5 from ⟨_, fun k q => q.1.imp id (fun q => Nat.le_trans hbw.size q), ⟨_, h5⟩, (Below.lv hbw).trans (hv4.trans hv5 (fun k q => q.1)) (fun k q => .inl q)⟩)
    clear h5 hv5 hv4 h4 hgr hd3 hF3 hown
    rw [e3] at hput
    unfold DF.val nmV at hput
    simp only [List.length_append] at c04 hput hrun
    go_wp2_with (first | (at_builtin; refine wpList_app (by rfl) (.tmp 56) (.tmp 57) 29 (by rfl) (by rfl) (by rfl) hrun ?_) | (refine wpList_upd (by rfl) 46 (.tmp 65) (.tmp 66) (.tmp 67) (by rfl) (by rfl) (by rfl) (by rfl) hput ?_))
    · next hfull =>
      rw [hwr] at hfull
      go_ret
      have hE : appE room L s l = 5 := by unfold appE oldF; rw [eo, eg, ← e2, if_neg (by simp), if_neg (by have := HG.out; simp only [DF.fe]; omega), if_pos (by omega)]
      have hL : appL room L s l = L := by unfold appL; rw [hE]; rfl
      exact ⟨by rw [hE]; rfl, by rw [hL]; exact DDid.same ⟨st, h⟩ hbw⟩
    · next hfit =>
      rw [hwr] at hfit
      go_ret
      have hE : appE room L s l = 0 := by unfold appE oldF; rw [eo, eg, ← e2, if_neg (by simp), if_neg (by have := HG.out; simp only [DF.fe]; omega), if_neg (by omega)]
      have hL : appL room L s l = putF L ⟨f.s, f.l ++ l, f.n⟩ := by unfold appL oldF oldN; rw [hE, eg, ← e2, e3]; rfl
      exact ⟨by rw [hE]; rfl, by rw [hL]; exact HF.out⟩
end
end Go.Proofs.YtcmbeolicopicaaGreat
namespace Go.Proofs.YtcmbeolicopicaaGreat
open Go.RowKit Go.Maps Go.ChangeMaps
set_option linter.unusedVariables false
set_option linter.unusedSectionVars false
set_option linter.unusedSimpArgs false
set_option maxRecDepth 100000

section
variable {B : Nat → Prop} {D n : Nat} {room : Int} {L : List FE} {w : World} (h : DB B D room L n w) (s : Nm) (hs : s.length ≤ 1000000) {K : Nat → Prop} {A : Option Addr} {c : Nat} {l : List Int} (ha : Rd w K A c (u8s l)) (hK : ∀ b, K b → b < w.heap.size) (hl : l.length ≤ 8388609) (hn : n + 1 ≤ 1000000)
include h hs ha hK hl hn
theorem app_new (eo : okN s = true) (eg : fd L s = none) : Calls Tryz.prog 16 #[.pointer (some ⟨D, 0, none⟩), nmV s, .slice A l.length c] w fun e w' => e = .returned (.int .i64 (appE room L s l)) ∧ DDid B D room (appL room L s l) (n + 1) w w' := by
  have hD0 := h
  obtain ⟨st, h⟩ := h
  have hk := known_any D st.m _ _ h.dsk.dsk
  have hr := right_any _ _ _ [s] _ (rd_new w 9 [nmV s]) (by rintro b rfl; simp) (by simpa using hs) (by simp)
  simp only [List.length_cons, List.length_nil, Nat.zero_add, Nat.reduceAdd] at hr
  have hb0 : Below w.heap.size w (w.alloc (.cells #[nmV s] 9)) := (Below.refl _ _).alloc (Nat.le_refl _) _
  unfold nmV at *
  go_enter Tryz.func16, Tryz.ntmps16
  go_wp2_with fail
  (with_reducible refine hk.mono ?_)
  rintro _ _ ⟨rfl, rfl⟩
  clear hk
  go_wp2_with fail
  (with_reducible refine hr.mono ?_)
  rintro _ w1 ⟨rfl, hb1⟩
  clear hr
  replace hb1 := hb0.trans (hb1.mono hb0.size)
  have : [s].all okN = true := by simpa using eo
  rw [this]
  have h1 := h.below hb1
  have hlk := h1.look s hs w1 rfl
  have e1 := fdD_none_of h eg
  rw [e1] at hlk
  unfold lookV at hlk
  have c0 := h1.dsk.dsk.cell 0
  simp only [List.getElem?_cons_zero] at c0
  have hb2 : Below w1.heap.size w1 (w1.alloc (.cells #[.slice none 0 0, .int .i64 0] 62)) := (Below.refl _ _).alloc (Nat.le_refl _) _
  have hG : Bk (w1.alloc (.cells #[.slice none 0 0, .int .i64 0] 62)) w1.heap.size 62 [.slice none 0 0, .int .i64 0] := Bk.new w1 62 [.slice none 0 0, .int .i64 0]
  have h2 := h1.below hb2
  have c1 := h2.dsk.dsk.cell 1
  have q0 := hG.cell 0
  simp only [List.getElem?_cons_zero, List.getElem?_cons_succ] at c1 q0
  unfold nmV at *
  go_wp2_with fail
  · next hlong =>
    have HG := Lib.hid hlong
    go_ret
    have hE : appE room L s l = 3 := by unfold appE oldF; rw [eo, eg, if_neg (by simp), if_pos (by have := HG.out; simp; omega)]
    have hL : appL room L s l = L := by unfold appL; rw [hE]; rfl
    exact ⟨by rw [hE]; rfl, by rw [hL]; exact DDid.same (hD0.mono (by omega) hn) (hb1.trans (hb2.mono hb1.size))⟩
  · next hlong =>
    have hU := hD0.used_le
    have HG := Lib.hid hlong
    have hrm := h.room
    generalize w1.alloc (.cells #[.slice none 0 0, .int .i64 0] 62) = w2 at *
    refine wp_region_held_drew (S := fun w' => w'.cell? ⟨D, 1, none⟩ = some (.int .i64 st.room)) (by kernel_rfl) c1 (fun hS => ?_)
    refine wpAnyH_take (i := 0) (v := ?_) rfl (by kernel_rfl) (by kernel_rfl) (by kernel_rfl) (fun _ _ _ h => h) (Or.inl ⟨by rfl, ?_⟩) hS ?_
    rotate_left 1
    · intro w' hSw
      go_simp <;> with_reducible rfl
    try simp only [List.getElem_toArray, List.getElem_cons_zero, List.getElem_cons_succ, Act.put, List.setIfInBounds_toArray, List.set_cons_zero, List.set_cons_succ]
    refine wpAnyH_take (i := 1) (v := ?_) rfl (by kernel_rfl) (by kernel_rfl) (by kernel_rfl) (fun _ _ _ h => h) (Or.inl ⟨by rfl, ?_⟩) hS ?_
    rotate_left 1
    · intro w' hSw
      go_simp <;> with_reducible rfl
    try simp only [List.getElem_toArray, List.getElem_cons_zero, List.getElem_cons_succ, Act.put, List.setIfInBounds_toArray, List.set_cons_zero, List.set_cons_succ]
    refine wpAnyH_take (i := 2) (v := ?_) rfl (by kernel_rfl) (by kernel_rfl) (by kernel_rfl) (fun _ _ _ h => h) (Or.inl ⟨by rfl, ?_⟩) hS ?_
    rotate_left 1
    · intro w' hSw
      go_simp <;> with_reducible rfl
    try simp only [List.getElem_toArray, List.getElem_cons_zero, List.getElem_cons_succ, Act.put, List.setIfInBounds_toArray, List.set_cons_zero, List.set_cons_succ]
    refine wpAnyH_take (i := 4) (v := ?_) rfl (by kernel_rfl) (by kernel_rfl) (by kernel_rfl) (fun _ _ _ h => h) (Or.inl ⟨by rfl, ?_⟩) hS ?_
    rotate_left 1
    · intro w' hSw
      go_simp <;> with_reducible rfl
    try simp only [List.getElem_toArray, List.getElem_cons_zero, List.getElem_cons_succ, Act.put, List.setIfInBounds_toArray, List.set_cons_zero, List.set_cons_succ]
    refine wpAnyH_take (i := 5) (v := ?_) rfl (by kernel_rfl) (by kernel_rfl) (by kernel_rfl) (fun _ _ _ h => h) (Or.inl ⟨by rfl, ?_⟩) hS ?_
    rotate_left 1
    · intro w' hSw
      go_simp <;> with_reducible rfl
    try simp only [List.getElem_toArray, List.getElem_cons_zero, List.getElem_cons_succ, Act.put, List.setIfInBounds_toArray, List.set_cons_zero, List.set_cons_succ]
    refine wpAnyH_take (i := 7) (v := ?_) rfl (by kernel_rfl) (by kernel_rfl) (by kernel_rfl) (fun _ _ _ h => h) (Or.inl ⟨by rfl, ?_⟩) hS ?_
    rotate_left 1
    · intro w' hSw
      go_simp <;> with_reducible rfl
    try simp only [List.getElem_toArray, List.getElem_cons_zero, List.getElem_cons_succ, Act.put, List.setIfInBounds_toArray, List.set_cons_zero, List.set_cons_succ]
    refine wpAnyH_take (i := 8) (v := ?_) rfl (by kernel_rfl) (by kernel_rfl) (by kernel_rfl) (fun _ _ _ h => h) (Or.inl ⟨by rfl, ?_⟩) hS ?_
    rotate_left 1
    · intro w' hSw
      go_simp <;> with_reducible rfl
    try simp only [List.getElem_toArray, List.getElem_cons_zero, List.getElem_cons_succ, Act.put, List.setIfInBounds_toArray, List.set_cons_zero, List.set_cons_succ]
    refine wpAnyH_take (i := 9) (v := ?_) rfl (by kernel_rfl) (by kernel_rfl) (by kernel_rfl) (fun _ _ _ h => h) (Or.inl ⟨by rfl, ?_⟩) hS ?_
    rotate_left 1
    · intro w' hSw
      go_simp <;> with_reducible rfl
    try simp only [List.getElem_toArray, List.getElem_cons_zero, List.getElem_cons_succ, Act.put, List.setIfInBounds_toArray, List.set_cons_zero, List.set_cons_succ]
    refine wpAnyH_take (i := 10) (v := ?_) rfl (by kernel_rfl) (by kernel_rfl) (by kernel_rfl) (fun _ _ _ h => h) (Or.inl ⟨by rfl, ?_⟩) hS ?_
    rotate_left 1
    · intro w' hSw
      go_simp <;> with_reducible rfl
    try simp only [List.getElem_toArray, List.getElem_cons_zero, List.getElem_cons_succ, Act.put, List.setIfInBounds_toArray, List.set_cons_zero, List.set_cons_succ]
    refine wpAnyH_take (i := 11) (v := ?_) rfl (by kernel_rfl) (by kernel_rfl) (by kernel_rfl) (fun _ _ _ h => h) (Or.inl ⟨by rfl, ?_⟩) hS ?_
    rotate_left 1
    · intro w' hSw
      go_simp <;> with_reducible rfl
    try simp only [List.getElem_toArray, List.getElem_cons_zero, List.getElem_cons_succ, Act.put, List.setIfInBounds_toArray, List.set_cons_zero, List.set_cons_succ]
    refine wpAnyH_ready (rs := [3]) (by kernel_rfl) (by simp) (AllReadyH.cons rfl (fun K hK => ?_) AllReadyH.nil)
    go_simp
    (with_reducible refine (used_any D st w2.drew (h2.dsk.heap_ rfl) h2.few').mono ?_)
    rintro _ w3 ⟨rfl, hb3⟩
    rw [h2.used]
    have hw3 : Below w2.heap.size w2 w3 := (Below.refl w2.heap.size w2).drew.trans hb3
    go_simp
    refine hK _ _ ((h2.dsk.below hw3).dsk.cell 1) (fun hS => ?_)
    clear hK K
    try simp only [List.getElem_toArray, List.getElem_cons_zero, List.getElem_cons_succ, Act.put, List.setIfInBounds_toArray, List.set_cons_zero, List.set_cons_succ]
    refine wpAnyH_take (i := 6) (v := ?_) rfl (by kernel_rfl) (by kernel_rfl) (by kernel_rfl) (fun _ _ _ h => h) (Or.inl ⟨by rfl, ?_⟩) hS ?_
    rotate_left 1
    · intro w' hSw
      go_simp <;> with_reducible rfl
    try simp only [List.getElem_toArray, List.getElem_cons_zero, List.getElem_cons_succ, Act.put, List.setIfInBounds_toArray, List.set_cons_zero, List.set_cons_succ]
    refine wpAnyH_take (i := 12) (v := ?_) rfl (by kernel_rfl) (by kernel_rfl) (by kernel_rfl) (fun _ _ _ h => h) (Or.inl ⟨by rfl, ?_⟩) hS ?_
    rotate_left 1
    · intro w' hSw
      go_simp <;> with_reducible rfl
    try simp only [List.getElem_toArray, List.getElem_cons_zero, List.getElem_cons_succ, Act.put, List.setIfInBounds_toArray, List.set_cons_zero, List.set_cons_succ]
    refine wpAnyH_take (i := 13) (v := ?_) rfl (by kernel_rfl) (by kernel_rfl) (by kernel_rfl) (fun _ _ _ h => h) (Or.inl ⟨by rfl, ?_⟩) hS ?_
    rotate_left 1
    · intro w' hSw
      go_simp <;> with_reducible rfl
    try simp only [List.getElem_toArray, List.getElem_cons_zero, List.getElem_cons_succ, Act.put, List.setIfInBounds_toArray, List.set_cons_zero, List.set_cons_succ]
    refine wpAnyH_done (by kernel_rfl) ?_ _
    have h3 := h2.below hw3
    have hG3 := hG.below hw3 hG.lt
    have q03 := hG3.cell 0
    have z03 := hG3.frozen 0
    simp only [List.getElem?_cons_zero] at q03
    have hb13 := hb2.trans (hw3.mono hb2.size)
    have hbw := hb1.trans (hb13.mono hb1.size)
    have ha3 := ha.keep (K' := K) (w' := w3) (fun b q => hbw.block b (hK b q)) (fun _ q => q)
    obtain ⟨A4, c4, w4, hrun, hd4, hgr, hown⟩ := dat_append (Dat.nil w3 (fun _ => True)) ha3 (by simp; omega) 29
    simp only [List.nil_append, List.length_nil] at hrun hd4 hgr hown
    have hwr : IntKind.i64.wrap ((usedF L : Int) + (l.length : Int)) = (usedF L : Int) + (l.length : Int) := IntWalk.i64_in _ (by omega)
    have hG4 : Bk w4 w1.heap.size 62 [.slice none 0 0, .int .i64 0] := (hgr.block _ hG3.lt (fun e => by cases e)).trans hG3
    have q04 := hG4.cell 0
    have z04 := hG4.frozen 0
    simp only [List.getElem?_cons_zero] at q04
    have hfar : ∀ k, k < w1.heap.size → (w4.setCell ⟨w1.heap.size, 0, none⟩ (.slice A4 l.length c4)).heap[k]? = w1.heap[k]? := fun k hk =>
      (Below.heap_setCell _ _ _ k (by show k ≠ w1.heap.size; omega)).trans ((hgr.block k (Nat.lt_of_lt_of_le hk hb13.size) (fun e => by cases e)).trans (hb13.block k hk))
    have hsz : (w4.setCell ⟨w1.heap.size, 0, none⟩ (.slice A4 l.length c4)).heap.size = w4.heap.size := by simp [World.setCell]
    have hsz1 : w1.heap.size ≤ w4.heap.size := Nat.le_trans hb13.size hgr.size
    have h4 : DBs B D room L n st (w4.setCell ⟨w1.heap.size, 0, none⟩ (.slice A4 l.length c4)) := ⟨h1.dsk.keep (hfar _ h1.dsk.dsk.lt) (fun k q => hfar k (h1.dsk.olt q)) (by rw [hsz]; exact hsz1), h1.room, h1.perm, h1.srt, h1.own, h1.hD, fun j q => by rw [hsz]; exact Nat.lt_of_lt_of_le (h1.lt j q) hsz1, h1.few, h1.nn, h1.len⟩
    have c04 := h4.dsk.dsk.cell 0
    simp only [List.getElem?_cons_zero] at c04
    obtain ⟨w5, hput, hmt, hm⟩ := h4.put_new s hs (fdD_none e1) (.pointer (some ⟨w1.heap.size, 0, none⟩)) _ rfl
    have hG5 : Bk w5 w1.heap.size 62 [.slice A4 l.length c4, .int .i64 0] := (hmt.far _ (by have := h1.dsk.mlt; omega)).trans (hG4.set 0 _)
    have hown4 : ∀ g, (Value.slice A4 l.length c4).ownBlock = some g → w3.heap.size ≤ g := fun g q => (hown g q).elim (fun q => by cases q) id
    have hs3 : w1.heap.size < w3.heap.size := hG3.lt
    have hd5 : Dat w5 (fun _ => True) A4 c4 l := hd4.keep' (fun b e _ => (hmt.far b (by have := hown4 b e; have := h1.dsk.mlt; omega)).trans (Below.heap_setCell _ _ _ b (by show b ≠ w1.heap.size; have := hown4 b e; omega))) (by rw [hmt.size, hsz]; exact Nat.le_refl _)
    have HF := fun (hsl : s.length ≤ 24) => h1.pushF (w' := w5) (f' := ⟨s, w1.heap.size, A4, c4, l, 0⟩) (fdD_none e1)
      ⟨hG5, hd5, by have := HG.out; simp; omega, Nat.zero_le _, hsl⟩ (Nat.le_refl _) (fun b e => by have := hown4 b e; omega) (fun k k1 k2 => (hmt.far k k2).trans (hfar k k1)) (by rw [hmt.size, hsz]; exact hsz1)
      ⟨hmt.os.trans (hgr.os.trans hb13.os), hmt.tape.trans (hgr.tape.trans hb13.tape), hmt.output.trans (hgr.output.trans hb13.output)⟩ (fun es ck he => hm es ck ((hfar _ h1.dsk.mlt).trans he)) hn
    have HF := Lib.hid (HF (okN_len eo))
    clear hmt hm hd5 hG5 hown4 hgr hd4 hown h4 hfar
    unfold nmV at hput
    go_wp2_with (first | (at_builtin; refine wpList_app (by rfl) (.tmp 56) (.tmp 57) 29 (by rfl) (by rfl) (by rfl) hrun ?_) | (refine wpList_upd (by rfl) 46 (.tmp 65) (.tmp 66) (.tmp 67) (by rfl) (by rfl) (by rfl) (by rfl) hput ?_))
    · next hfull =>
      rw [hwr] at hfull
      go_ret
      have hE : appE room L s l = 5 := by unfold appE oldF; rw [eo, eg, if_neg (by simp), if_neg (by have := HG.out; simp; omega), if_pos (by omega)]
      have hL : appL room L s l = L := by unfold appL; rw [hE]; rfl
      exact ⟨by rw [hE]; rfl, by rw [hL]; exact DDid.same (hD0.mono (by omega) hn) hbw⟩
    · next hfit =>
      rw [hwr] at hfit
      go_ret
      have hE : appE room L s l = 0 := by unfold appE oldF; rw [eo, eg, if_neg (by simp), if_neg (by have := HG.out; simp; omega), if_neg (by omega)]
      have hL : appL room L s l = putF L ⟨s, l, 0⟩ := by unfold appL oldF oldN; rw [hE, eg]; rfl
      obtain ⟨B', p1, p2, p3⟩ := HF.out
      exact ⟨by rw [hE]; rfl, by rw [hL]; exact ⟨B', fun j q => (p1 j q).imp id (fun q => Nat.le_trans hb1.size q), p2, (Below.lv hb1).trans p3 (fun j q => .inl q)⟩⟩
end
section
variable {B : Nat → Prop} {D n : Nat} {room : Int} {L : List FE} {w : World} (h : DB B D room L n w) (s : Nm) (hs : s.length ≤ 1000000) {K : Nat → Prop} {A : Option Addr} {c : Nat} {l : List Int} (ha : Rd w K A c (u8s l)) (hK : ∀ b, K b → b < w.heap.size) (hl : l.length ≤ 8388609) (hn : n + 1 ≤ 1000000)
include h hs ha hK hl hn
theorem op_append : Calls Tryz.prog 16 #[.pointer (some ⟨D, 0, none⟩), nmV s, .slice A l.length c] w fun e w' => e = .returned (.int .i64 (appE room L s l)) ∧ DDid B D room (appL room L s l) (n + 1) w w' := by
  have hup : ∀ e w', (e = Ending.returned (Value.int .i64 (appE room L s l)) ∧ DDid B D room (appL room L s l) n w w') → e = Ending.returned (Value.int .i64 (appE room L s l)) ∧ DDid B D room (appL room L s l) (n + 1) w w' := by
    rintro e w' ⟨q, B', q1, q2, q3⟩
    exact ⟨q, B', q1, q2.mono (Nat.le_succ _) hn, q3⟩
  cases eo : okN s with
  | false => exact (app_bad h s hs ha hK hl eo).mono hup
  | true =>
    cases eg : fd L s with
    | none => exact app_new h s hs ha hK hl hn eo eg
    | some g => exact (app_old h s hs ha hK hl eo eg).mono hup
end
end Go.Proofs.YtcmbeolicopicaaGreat
