/- raft, the walk: feed. raft, the walk: put. raft, the walk: others. -/
import Derived.StillTailTactics
import Derived.Test.YthfofnfkopnbhaaZ7
namespace Go.Proofs.Ythfofnfkopnbhaa
open Go.RowKit Go.Maps Go.ChangeMaps
set_option linter.unusedVariables false
set_option linter.unusedSimpArgs false
set_option linter.unusedSectionVars false
set_option maxRecDepth 100000

theorem term_is (es : List En) (i : Int) : termAt es i = (tmAt En.term es i).getD 0 := by
  unfold termAt tmAt
  by_cases h0 : i = 0
  · subst h0; simp
  · rw [if_neg h0]
    by_cases h1 : i < 0
    · rw [if_pos h1, if_neg (by omega)]; rfl
    · rw [if_neg h1, if_pos (by omega)]
theorem has_is (es : List En) (i : Int) : hasAt es i = (tmAt En.term es i).isSome := by
  unfold hasAt tmAt
  by_cases h0 : i = 0
  · subst h0; simp
  · rw [if_neg h0]
    by_cases h1 : i < 0
    · rw [if_pos h1]; simp; omega
    · rw [if_neg h1]
      rcases Nat.lt_or_ge (i - 1).toNat es.length with h2 | h2
      · rw [List.getElem?_eq_getElem h2]; simp; omega
      · rw [List.getElem?_eq_none h2]; simp; omega
theorem from_is (es : List En) (i : Int) (k : Nat) : (fromI es i).take k = fromP es i k := by
  unfold fromI fromP
  by_cases h1 : 1 ≤ i
  · rw [if_pos h1]
    by_cases h2 : i ≤ (es.length : Int)
    · rw [if_pos ⟨h1, h2⟩]
    · rw [if_neg (fun h => h2 h.2), List.drop_eq_nil_of_le (by omega)]; simp
  · rw [if_neg h1, if_neg (fun h => h1 h.1)]; simp
/-- A call's sizes. -/
structure Lm (c : Cs En) : Prop where
  len : c.p.log.length ≤ 90000
  dat : ∀ e ∈ c.p.log, e.data.length ≤ 100000000
  out : c.out.length ≤ 50000
theorem nd_idx {α : Type} {l : List α} (h : l.Nodup) {i j : Nat} {x : α} (hi : l[i]? = some x) (hj : l[j]? = some x) : i = j := by
  obtain ⟨i1, i2⟩ := List.getElem?_eq_some_iff.1 hi
  obtain ⟨j1, j2⟩ := List.getElem?_eq_some_iff.1 hj
  rcases Nat.lt_trichotomy i j with q | q | q
  · exact absurd (i2.trans j2.symm) (List.pairwise_iff_getElem.1 h i j i1 j1 q)
  · exact q
  · exact absurd (j2.trans i2.symm) (List.pairwise_iff_getElem.1 h j i j1 i1 q)
section
variable {w w' : World} {P : Nat} {n id : Int} {m : Pm} {R : Nat → Prop} {c c' : Cs En}
theorem OfAt.look (h : OfAt w m.ov m.M) {s : Int} {b : Nat} (hs : (s, b) ∈ m.M) : (Instr.lookup 52 m.ov (.int .i64 s) false).run Try.prog w = .ok (.pointer (some ⟨b, 0, none⟩)) w := by
  rcases h with ⟨_, h⟩ | ⟨g, es, ck, h1, h2, h3, h4⟩
  · rw [h] at hs; cases hs
  · obtain ⟨j, hj⟩ := List.mem_iff_getElem?.1 hs
    have h5 := congrArg (fun l => l[j]?) h4
    simp only [List.getElem?_map, hj, Option.map_some] at h5
    cases he : es[j]? with
    | none => rw [he] at h5; cases h5
    | some e =>
      rw [he] at h5
      simp at h5
      obtain ⟨l, hk⟩ := h3.keys e (List.mem_of_getElem? he)
      rw [h5.1] at hk
      rw [h1, run_look_some (Maps.int_keyed Try.underlying3) Try.underlying52 h2 h3 hk he h5.1, h5.2]
/-- What is known of a server has changed. -/
theorem PeA.srvto (h : PeA w P n id m R c) {s : Int} {b : Nat} (hs : (s, b) ∈ m.M) {N A : Int} (hb : Bk w' b 93 [.int .i64 N, .int .i64 A]) (ha : Ag (fun k => k ≠ b) w w') :
    PeA w' P n id m R { c with p := { c.p with next := setF c.p.next s N, mat := setF c.p.mat s A } } := by
  have ho : m.Oth b := .inr (.inr (.inr ⟨s, hs⟩))
  have hr := h.r
  have hbs := hr.srv s b hs
  have hm : ∀ k, m.vv = .map (some k) ∨ m.ov = .map (some k) → k ≠ b := by
    rintro k hk rfl
    unfold Bk at hbs
    rcases hk with hk | hk
    · obtain ⟨es, ck, h1⟩ := hr.vt.at_ hk
      rw [h1] at hbs; cases hbs
    · obtain ⟨es, ck, h1⟩ := hr.of.at_ hk
      rw [h1] at hbs; cases hbs
  have hl : m.lv.ownBlock ≠ some b := fun e => by
    obtain ⟨_, cur, h2⟩ := hr.row.own' e
    unfold Bk at hbs
    rw [h2] at hbs
    injection hbs with hbs
    injection hbs with _ hbs
    exact absurd hbs (by decide)
  have hk : ∀ k, m.Own P k → k ≠ b → w'.heap[k]? = w.heap[k]? := fun k h1 h2 => ha.block k (hr.own k h1) h2
  refine ⟨h.obj.ag ha (fun e => (hr.lX b ho).2 e.symm), ⟨hr.log.keep (ha.mono fun k _ hL e => (hr.lX b ho).1 (e ▸ hL)), hr.row.keep (fun e => hk _ (.inr (.inr (.inl e))) (fun e' => hl (e' ▸ e))), hr.dlen, fun i l d hi hd => (hr.ents i l d hi hd).keep (fun k hR => ha.block k (hr.rr k hR).1 (fun e => (hr.rr k hR).2 (e ▸ .inr (.inr ho)))) (fun _ h => h), hr.vt.keep (fun k e => hk k (.inr (.inr (.inr (.inl e)))) (hm k (.inl e))), hr.vn, hr.of.keep (fun k e => hk k (.inr (.inr (.inr (.inr (.inl e))))) (hm k (.inr e))), fun k b' hb' => ?_, hr.keys, fun k hk => Nat.lt_of_lt_of_le (hr.own k hk) ha.size, fun k hk => ⟨Nat.lt_of_lt_of_le (hr.rr k hk).1 ha.size, (hr.rr k hk).2⟩, hr.lP, hr.lX, hr.vo, hr.mnd⟩⟩
  show Bk w' b' _ [.int .i64 (setF c.p.next s N k), .int .i64 (setF c.p.mat s A k)]
  unfold setF
  by_cases e : k = s
  · subst e
    rw [if_pos rfl, if_pos rfl]
    have h1 := hr.of.nodup
    have : b' = b := by
      obtain ⟨i, hi⟩ := List.mem_iff_getElem?.1 hs
      obtain ⟨j, hj⟩ := List.mem_iff_getElem?.1 hb'
      have h2 : (m.M.map Prod.fst)[i]? = some k := by rw [List.getElem?_map, hi]; rfl
      have h3 : (m.M.map Prod.fst)[j]? = some k := by rw [List.getElem?_map, hj]; rfl
      have h4 : i = j := nd_idx h1 h2 h3
      subst h4
      rw [hi] at hj
      injection hj with hj
      injection hj with _ hj
      exact hj.symm
    rw [this]
    exact hb
  · rw [if_neg e, if_neg e]
    refine (hr.srv k b' hb').ag ha ?_
    rintro rfl
    obtain ⟨i, hi⟩ := List.mem_iff_getElem?.1 hs
    obtain ⟨j, hj⟩ := List.mem_iff_getElem?.1 hb'
    have h2 : (m.M.map Prod.snd)[i]? = some b' := by rw [List.getElem?_map, hi]; rfl
    have h3 : (m.M.map Prod.snd)[j]? = some b' := by rw [List.getElem?_map, hj]; rfl
    have h4 : i = j := nd_idx hr.mnd h2 h3
    subst h4
    rw [hi] at hj
    injection hj with hj
    injection hj with hj _
    exact e hj.symm
theorem setF_same (f : Int → Int) (s : Int) : setF f s (f s) = f := by
  funext x
  unfold setF
  by_cases e : x = s
  · rw [if_pos e, e]
  · rw [if_neg e]
theorem PeA.nextTo (h : PeA w P n id m R c) {s : Int} {b : Nat} (hs : (s, b) ∈ m.M) (N : Int) : PeA (w.setCell ⟨b, 0, none⟩ (.int .i64 N)) P n id m R { c with p := { c.p with next := setF c.p.next s N } } := by
  have := h.srvto hs ((h.r.srv s b hs).set 0 (.int .i64 N)) ((Ag.refl _ w).setCell (p := ⟨b, 0, none⟩) (fun _ hK => hK rfl) _)
  rw [setF_same] at this
  exact this
theorem PeA.matTo (h : PeA w P n id m R c) {s : Int} {b : Nat} (hs : (s, b) ∈ m.M) (N : Int) : PeA (w.setCell ⟨b, 1, none⟩ (.int .i64 N)) P n id m R { c with p := { c.p with mat := setF c.p.mat s N } } := by
  have := h.srvto hs ((h.r.srv s b hs).set 1 (.int .i64 N)) ((Ag.refl _ w).setCell (p := ⟨b, 1, none⟩) (fun _ hK => hK rfl) _)
  rw [setF_same] at this
  exact this
theorem PeA.s70 (h : PeA w P n id m R c) {s : Int} {b : Nat} (hs : (s, b) ∈ m.M) : w.cell? ⟨P, 7, none⟩ = some (.pointer (some ⟨m.lp, 0, none⟩)) ∧ w.cell? ⟨b, 0, none⟩ = some (.int .i64 (c.p.next s)) := ⟨h.obj.cell 7, (h.r.srv s b hs).cell 0⟩
theorem feed_any {s : Int} {b : Nat} (h : PeA w P n id m R c) (hs : (s, b) ∈ m.M) (hl : Lm c) (h1 : 1 ≤ c.p.next s) (h2 : c.p.next s ≤ (c.p.log.length : Int) + 1) :
    Calls Try.prog 33 #[.pointer (some ⟨P, 0, none⟩), .int .i64 s] w fun e w' => e = .returned (.tuple #[]) ∧ Went P n id m R (feedP En.term id c s) w w' := by
  obtain ⟨c0, c1, c2, c3, c4, c5, c6, c7, c8, c9, c10, c11, c12, c13⟩ := h.cells
  have lk := h.r.of.look hs
  have b0 := (h.r.srv s b hs).cell 0
  have b1 := (h.r.srv s b hs).cell 1
  simp only [List.getElem?_cons_zero, List.getElem?_cons_succ] at b0 b1
  have hlen := hl.len
  have hw : IntKind.i64.wrap (c.p.next s - 1) = c.p.next s - 1 := IntWalk.i64_in _ (by omega)
  have H := Lib.hid h
  clear h
  go_enter Try.func33, Try.ntmps33
  go_wp2_with fail
  go_region_held3 (fun w' => w'.cell? ⟨P, 7, none⟩ = some (.pointer (some ⟨m.lp, 0, none⟩)) ∧ w'.cell? ⟨b, 0, none⟩ = some (.int .i64 (c.p.next s))) (first | exact ⟨c7, b0⟩ | exact PeA.s70 (H.out.below ((Below.refl _ w).drew.trans hb1)) hs)
    (first | (go_at_call 48; refine (Term_any 0 w.drew m.lp c.p.log _ H.out.drew.r.log.has).mono ?_; rintro _ w1 ⟨rfl, hb1⟩))
  have hB1 : Below w.heap.size w w1 := (Below.refl _ w).drew.trans hb1
  have HA1 := Lib.hid (H.out.below hB1)
  obtain ⟨c0, c1, c2, c3, c4, c5, c6, c7, c8, c9, c10, c11, c12, c13⟩ := HA1.out.cells
  have b0 := (HA1.out.r.srv s b hs).cell 0
  have b1 := (HA1.out.r.srv s b hs).cell 1
  simp only [List.getElem?_cons_zero, List.getElem?_cons_succ] at b0 b1
  clear hb1
  go_wp2_with fail
  go_still_tail 8, (by kernel_rfl)
  go_wp2_with (go_at_call 40; refine (FromK_any 0 w1.drew m.lp c.p.log _ 4 HA1.out.drew.r.log.has (by omega) hl.dat (by omega)).mono ?_; rintro _ w2 ⟨v, gg, dd, rfl, hL2, hb2⟩)
  rw [show List.take (Int.toNat 4) (fromI c.p.log (c.p.next s)) = fromP c.p.log (c.p.next s) 4 from from_is _ _ 4] at hL2
  obtain ⟨A, d, rfl, hE⟩ := hL2.ents
  clear hL2
  have hB2 : Below w.heap.size w w2 := hB1.trans (((Below.refl _ w1).drew.trans hb2).mono hB1.size)
  have hz1 : w1.drew.heap.size = w1.heap.size := rfl
  have HA2 := Lib.hid (H.out.below hB2)
  obtain ⟨c0, c1, c2, c3, c4, c5, c6, c7, c8, c9, c10, c11, c12, c13⟩ := HA2.out.cells
  have b0 := (HA2.out.r.srv s b hs).cell 0
  have b1 := (HA2.out.r.srv s b hs).cell 1
  simp only [List.getElem?_cons_zero, List.getElem?_cons_succ] at b0 b1
  have hlf : (fromP c.p.log (c.p.next s) 4).length ≤ 4 := (from_le h2).2
  have HS := send_any s { (lt0 3 : Lt En) with idx := c.p.next s - 1, was := termAt c.p.log (c.p.next s - 1), ents := fromP c.p.log (c.p.next s) 4, com := c.p.C } A d (fun b => w1.drew.heap.size ≤ b ∧ b < w2.heap.size) HA2.out.drew hE (fun k hk => ⟨hk.2, fun ho => by have := H.out.r.own k ho; have := hB1.size; have := hk.1; omega⟩) (by have := hl.out; omega)
  simp only [ltA, ltV, lt0] at HS
  clear hb2
  go_still_tail 15, (by kernel_rfl)
  go_wp2_with fail
  refine HS.mono ?_
  rintro _ w3 ⟨rfl, lv', g', ds', hP3, hO3, hA3⟩
  have c0' : w3.cell? ⟨b, 0, none⟩ = some (.int .i64 (c.p.next s)) := (hP3.r.srv s b hs).cell 0
  have f0' := (hP3.r.srv s b hs).frozen 0
  have HP3 := Lib.hid hP3
  clear hP3
  go_wp2_with fail
  go_end0
  have hP4 := HP3.out.nextTo hs (c.p.next s + ((fromP c.p.log (c.p.next s) 4).length : Int))
  rw [term_is] at hP4
  have hz := hB2.size
  refine ⟨rfl, _, _, hP4, fun k hk => (hO3 k hk).imp (fun x => x) (fun h => Nat.le_trans hz h), fun k hk => hk.imp (fun x => x) (fun h => Nat.le_trans hB1.size h.1), ?_⟩
  exact ((Ag.of_below _ (hB2.trans ((Below.refl _ w2).drew.mono hz))).trans hA3).setCell (fun _ hK => hK (.inr (.inr (.inr (.inr (.inr ⟨s, hs⟩)))))) _
end
end Go.Proofs.Ythfofnfkopnbhaa
namespace Go.Proofs.Ythfofnfkopnbhaa
open Go.RowKit Go.Maps Go.ChangeMaps
set_option linter.unusedVariables false
set_option linter.unusedSimpArgs false
set_option linter.unusedSectionVars false
set_option maxRecDepth 100000

theorem CloneS_any (K : Nat → Prop) (A : Option Addr) (c : Nat) (l : List Int) (w : World) (h : Rd w K A c (u8s l)) (hn : l.length ≤ 100000000) :
    Calls Try.prog 44 #[.slice A l.length c] w fun e w' => ∃ A' c', e = .returned (.slice A' l.length c') ∧ Dat w' (fun b => w.heap.size ≤ b) A' c' l ∧ Below w.heap.size w w' := by
  have q35 : ∀ (w : World) (a : Option Addr) (n c : Nat), (binOp .eql 42 (.slice a n c) (.slice none 0 0)).run Try.prog w = .ok (.bool a.isNone) w := fun w a n c => Lib.run_eql_slice_nil w _ _ _ _ _ _ _ Try.underlying42
  cases A with
  | none =>
    obtain ⟨h1, rfl⟩ := h.nonone rfl
    simp at h1
    subst h1
    go_enter Try.func44, Try.ntmps44
    go_wp2_with fail
    go_ret
    exact ⟨none, 0, rfl, Dat.nil _ _, Below.refl _ _⟩
  | some a =>
    obtain ⟨i0, hi, hz0, hz1, hz2⟩ : ∃ i0 : TypeInfo, Try.prog.info? 5 = some i0 ∧ i0.zero = some (.int .u8 0) ∧ i0.size = 1 ∧ i0.bytes = 1 := ⟨_, rfl, rfl, rfl, rfl⟩
    have H := Lib.hid h
    clear h
    have hm0 : (w.alloc (.cells #[] 5)).ownsRow w.heap.size 5 1 (.slice (some ⟨w.heap.size, 0, none⟩) 0 0) 0 [] := World.ownsRow_made w #[] 0 (Nat.le_refl _) (by decide) rfl
    have hc0 : ∀ j u, (u8s l)[j]? = some u → (w.alloc (.cells #[] 5)).cell? (a.add j) = some u := by
      intro j u hu
      obtain ⟨a', e', _, hc⟩ := H.out.2 (by intro e; rw [e] at hu; cases hu)
      injection e' with e'
      subst e'
      have h1 := hc j u hu
      rw [World.cell?_of_block (heap_alloc_old w _ (World.block_lt_of_cell? w _ h1))]
      exact h1
    go_enter Try.func44, Try.ntmps44
    go_wp2_with (at_builtin; refine wpList_append_own _ rfl _ _ 42 rfl w.heap.size 5 i0 (.int .u8 0) 1 1 Try.underlying42 hi hz0 hz1 hz2 rfl (by decide) (.slice (some ⟨w.heap.size, 0, none⟩) 0 0) 0 [] rfl hm0 a l.length c (u8s l) rfl (by simp) hc0 (u8s_one _) (by unfold maxLen; omega) (by omega) (by simp) ?_; intro v' w1 hown hgrow hv)
    simp only [Nat.zero_add, List.nil_append] at hown
    have hbel : Below w.heap.size w w1 := ((Below.refl w.heap.size w).alloc (Nat.le_refl _) _).grown hgrow (by simp) (by intro k e; simp [Value.ownBlock] at e; omega)
    have hrd := own_dat (w := w) hown
    clear hown hgrow hv
    obtain ⟨A', c', rfl, hd⟩ := hrd
    go_ret
    exact ⟨_, _, rfl, hd, hbel⟩
section
variable {w w' : World} {P : Nat} {n id : Int} {m : Pm} {R : Nat → Prop} {c c' : Cs En}
/-- The log alone has changed. -/
theorem PeA.logTo (h : PeA w P n id m R c) {S' : Nat → Prop} {es : List En} (hl : LogS S' w' m.lp es) (hS : ∀ b, S' b → m.L b ∨ Fresh w w' b) (hA : Ag (fun b => ¬ m.L b) w w') :
    PeA w' P n id { m with L := S' } R { c with p := { c.p with log := es } } ∧ ∀ b, ({ m with L := S' } : Pm).Own P b → m.Own P b ∨ w.heap.size ≤ b := by
  have hr := h.r
  have hoth : ∀ b, m.Oth b → w'.heap[b]? = w.heap[b]? := fun b hb => hA.block b (hr.own b (.inr (.inr hb))) (hr.lX b hb).1
  have hsz := hA.size
  refine ⟨⟨h.obj.ag hA hr.lP, ⟨hl, hr.row.keep (fun e => hoth _ (.inl e)), hr.dlen, fun i l d hi hd => (hr.ents i l d hi hd).keep (fun b hb => hA.block b (hr.rr b hb).1 (fun hL => (hr.rr b hb).2 (.inr (.inl hL)))) (fun _ h => h), hr.vt.keep (fun b e => hoth b (.inr (.inl e))), hr.vn, hr.of.keep (fun b e => hoth b (.inr (.inr (.inl e)))), fun k b hb => (hoth b (.inr (.inr (.inr ⟨k, hb⟩)))).trans (hr.srv k b hb), hr.keys, ?_, ?_, ?_, ?_, hr.vo, hr.mnd⟩⟩, ?_⟩
  · rintro b (e | e | e)
    · have := h.plt; omega
    · rcases hS b e with h1 | h1
      · have := hr.own b (.inr (.inl h1)); omega
      · exact h1.2
    · have := hr.own b (.inr (.inr e)); omega
  · intro b hb
    obtain ⟨h1, h2⟩ := hr.rr b hb
    refine ⟨by omega, ?_⟩
    rintro (e | e | e)
    · exact h2 (.inl e)
    · rcases hS b e with h3 | h3
      · exact h2 (.inr (.inl h3))
      · exact absurd h1 (Nat.not_lt.2 h3.1)
    · exact h2 (.inr (.inr e))
  · intro e
    rcases hS _ e with h3 | h3
    · exact hr.lP h3
    · exact absurd h.plt (Nat.not_lt.2 h3.1)
  · intro b hb
    refine ⟨fun e => ?_, (hr.lX b hb).2⟩
    rcases hS b e with h3 | h3
    · exact (hr.lX b hb).1 h3
    · exact absurd (hr.own b (.inr (.inr hb))) (Nat.not_lt.2 h3.1)
  · rintro b (e | e | e)
    · exact .inl (.inl e)
    · rcases hS b e with h3 | h3
      · exact .inl (.inr (.inl h3))
      · exact .inr h3.1
    · exact .inl (.inr (.inr e))
theorem put_peer (e : En) (A : Option Addr) (d : Nat) (K : Nat → Prop) (h : PeA w P n id m R c) (hl : Lm c) (hr : Rd w K A d (u8s e.data)) (hK : ∀ b, K b → b < w.heap.size ∧ ¬ m.Own P b) (hd : e.data.length ≤ 100000000) :
    Calls Try.prog 28 #[.pointer (some ⟨P, 0, none⟩), enA e A d] w fun x w' => x = .returned (.int .i64 (c.p.log.length + 1)) ∧ Went P n id m R (putP c { e with term := c.p.T }) w w' := by
  obtain ⟨c0, c1, c2, c3, c4, c5, c6, c7, c8, c9, c10, c11, c12, c13⟩ := h.cells
  have H := Lib.hid h
  have hP := h.plt
  have hlen := hl.len
  clear h
  go_enter Try.func28, Try.ntmps28
  unfold enA enV
  go_wp2_with fail
  have hbA : Below w.heap.size w (w.alloc (.cells #[.int .i64 c.p.T, .int .u8 e.kind, .int .i64 e.ver, .int .i64 e.srv, .bool e.good, .slice A e.data.length d] 44)) := (Below.refl _ _).alloc (Nat.le_refl _) _
  have hbn : Bk (w.alloc (.cells #[.int .i64 c.p.T, .int .u8 e.kind, .int .i64 e.ver, .int .i64 e.srv, .bool e.good, .slice A e.data.length d] 44)) w.heap.size 44 (enV { e with term := c.p.T } A d) := Bk.new w _ _
  have hza : (w.alloc (.cells #[.int .i64 c.p.T, .int .u8 e.kind, .int .i64 e.ver, .int .i64 e.srv, .bool e.good, .slice A e.data.length d] 44)).heap.size = w.heap.size + 1 := by simp
  generalize (w.alloc (.cells #[.int .i64 c.p.T, .int .u8 e.kind, .int .i64 e.ver, .int .i64 e.srv, .bool e.good, .slice A e.data.length d] 44)) = wa at *
  refine (CloneS_any K A d e.data wa (hr.keep (fun b hb => hbA.block b (hK b hb).1) (fun _ h => h)) hd).mono ?_
  rintro _ w1 ⟨A', d', rfl, hdat, hb1⟩
  have hbn1 : Bk w1 w.heap.size 44 (enV { e with term := c.p.T } A d) := hbn.below hb1 (by omega)
  have f5 := hbn1.frozen 5
  have g5 : w1.cell? ⟨w.heap.size, 5, none⟩ = some (.slice A e.data.length d) := hbn1.cell 5
  have hbn2 := hbn1.set 5 (.slice A' e.data.length d')
  have hbw : Below w.heap.size w (w1.setCell ⟨w.heap.size, 5, none⟩ (.slice A' e.data.length d')) := (hbA.trans (hb1.mono hbA.size)).setCell (Nat.le_refl _) _
  have hs1 := hb1.size
  have hdat2 : Dat (w1.setCell ⟨w.heap.size, 5, none⟩ (.slice A' e.data.length d')) (fun b => w.heap.size < b ∧ b < w1.heap.size) A' d' e.data := hdat.keep (fun b hb _ => Below.heap_setCell _ _ _ _ (by show b ≠ w.heap.size; omega)) (by simp [World.setCell]) (fun b hb hl => ⟨by omega, hl⟩)
  have hzs : (w1.setCell ⟨w.heap.size, 5, none⟩ (.slice A' e.data.length d')).heap.size = w1.heap.size := by simp [World.setCell]
  have HBN := Lib.hid hbn2
  have HZ := Lib.hid hzs
  have HZA := Lib.hid hza
  clear hbA hbn hbn1 hb1 hdat hzs hza hbn2
  go_wp2_with fail
  generalize (w1.setCell ⟨w.heap.size, 5, none⟩ (.slice A' e.data.length d')) = w2 at *
  obtain ⟨e0, e1, e2, e3, e4, e5⟩ := cells6 HBN.out
  have HP2 := Lib.hid (H.out.below hbw)
  have q7 : w2.cell? ⟨P, 7, none⟩ = some (.pointer (some ⟨m.lp, 0, none⟩)) := HP2.out.obj.cell 7
  obtain ⟨r1, r2, r3⟩ := hdat2.rd
  have HPut := PutS_any m.L (fun b => w.heap.size < b ∧ b < w1.heap.size) w2.drew m.lp c.p.log { e with term := c.p.T } A' d' HP2.out.drew.r.log (fun b hb => HP2.out.drew.r.own b (.inr (.inl hb))) r1 (fun b hb => ⟨by have := HZ.out; show b < w2.heap.size; omega, fun hL => by have := H.out.r.own b (.inr (.inl hL)); omega⟩) r2 r3 (by omega) hd
  simp only [enA, enV] at HPut
  clear r1 r2 r3 hdat2
  go_still_tail 5, (by kernel_rfl)
  go_wp2_with fail
  refine HPut.mono ?_
  rintro _ w3 ⟨rfl, hlog3, hA3⟩
  obtain ⟨hP3, hO3⟩ := HP2.out.drew.logTo hlog3 (fun b hb => hb) hA3
  have HCh := changed_any ((c.p.log.length : Int) + 1) hP3
  have hw : IntKind.i64.wrap ((c.p.log.length : Int) + 1) = (c.p.log.length : Int) + 1 := IntWalk.i64_in _ (by omega)
  clear HPut hlog3
  go_wp2_with fail
  refine HCh.mono ?_
  rintro _ w4 ⟨rfl, hP4, hA4⟩
  go_wp2_with fail
  go_ret
  refine ⟨rfl, _, R, hP4, fun b hb => (hO3 b hb).imp (fun x => x) (fun h => Nat.le_trans hbw.size h), fun b hb => .inl hb, ?_⟩
  exact ((Ag.of_below _ hbw.drew).trans (hA3.mono (fun b _ hb hL => hb (.inr (.inl hL))))).trans (hA4.mono (fun b _ hb e => hb (.inl e)))
end
end Go.Proofs.Ythfofnfkopnbhaa
namespace Go.Proofs.Ythfofnfkopnbhaa
open Go.RowKit Go.Maps Go.ChangeMaps
set_option linter.unusedVariables false
set_option linter.unusedSimpArgs false
set_option linter.unusedSectionVars false
set_option maxRecDepth 100000

/-- others, with whatever is done to each. -/
theorem others_gen (I : Nat → World → Prop) (f : Nat) (first caps : Array Value) (P : Nat) (n id : Int) (w : World) (hent : ∀ args w, (callFunc f args).run Try.prog w = .ok (.enter f args) w) (hn : 0 ≤ n) (hn7 : n ≤ 7)
    (h0 : I 0 w) (hread : ∀ k w1, I k w1 → w1.cell? ⟨P, 6, none⟩ = some (.int .i64 n) ∧ w1.cell? ⟨P, 5, none⟩ = some (.int .i64 id))
    (hstep : ∀ (k : Nat) w1, I k w1 → (k : Int) < n → (k : Int) + 1 ≠ id → Calls Try.prog f (first.push (.int .i64 ((k : Int) + 1)) ++ caps) w1 fun e w' => (∃ r, e = .returned r) ∧ I (k + 1) w')
    (hskip : ∀ (k : Nat) w1, I k w1 → (k : Int) < n → (k : Int) + 1 = id → I (k + 1) w1) :
    Calls Try.prog 32 #[.pointer (some ⟨P, 0, none⟩), .func (.func f) first caps] w fun e w' => e = .returned (.tuple #[]) ∧ I n.toNat w' := by
  have HR := Lib.hid hread
  have HS := Lib.hid hstep
  have HK := Lib.hid hskip
  clear hread hstep hskip
  go_enter Try.func32, Try.ntmps32
  go_wp2_with fail
  go_loopw [4] (fun i wr => ∃ k : Nat, (k : Int) ≤ n ∧ i = .int .i64 ((k : Int) + 1) ∧ I k wr) (fun i _ => 10 - (intOf i).toNat)
  case atStart => exact ⟨0, hn, rfl, h0⟩
  case round =>
    obtain ⟨k, hk, rfl, hI⟩ := hrel
    obtain ⟨g6, g5⟩ := HR.out k _ hI
    by_cases hlt : (k : Int) < n
    · have d1 : decide ((k : Int) + 1 ≤ n) = true := decide_eq_true (by omega)
      by_cases hid : (k : Int) + 1 = id
      · have d2 : ((k : Int) + 1 != id) = false := by simp [hid]
        have hI2 := HK.out k _ hI hlt hid
        go_wp2_with fail
        go_roundw
        case rel => exact ⟨k + 1, by omega, by go_num, hI2⟩
        case measure => simp [intOf]; omega
      · have d2 : ((k : Int) + 1 != id) = true := by simp [hid]
        have hc := HS.out k _ hI hlt hid
        go_wp2_with fail
        refine hc.mono ?_
        rintro _ w2 ⟨⟨r, rfl⟩, hI2⟩
        go_wp2_with fail
        go_roundw
        case rel => exact ⟨k + 1, by omega, by go_num, hI2⟩
        case measure => simp [intOf]; omega
    · have d1 : decide ((k : Int) + 1 ≤ n) = false := decide_eq_false (by omega)
      have hkn : k = n.toNat := by omega
      subst hkn
      go_wp2_with fail
      go_end0
      exact ⟨rfl, hI⟩
/-- The other servers among the first k. -/
def othersK (k : Nat) (id : Int) : List Int := ((List.range k).map fun (k : Nat) => (k : Int) + 1).filter fun s => decide (s ≠ id)
theorem othersK_all (n id : Int) : othersK n.toNat id = others n id := rfl
theorem othersK_take (k : Nat) (id : Int) (h : (k : Int) + 1 ≠ id) : othersK (k + 1) id = othersK k id ++ [(k : Int) + 1] := by
  unfold othersK
  rw [List.range_succ, List.map_append, List.filter_append]
  simp [h]
theorem othersK_skip (k : Nat) (id : Int) (h : (k : Int) + 1 = id) : othersK (k + 1) id = othersK k id := by
  unfold othersK
  rw [List.range_succ, List.map_append, List.filter_append]
  simp [h]
section
variable {w w' : World} {P : Nat} {n id : Int} {m : Pm} {R : Nat → Prop} {c c' : Cs En}
/-- others, with a step of the peer's. -/
theorem others_step (J : Nat → Cs En → Prop) (step : Cs En → Int → Cs En) (f : Nat) (first caps : Array Value) (hent : ∀ args w, (callFunc f args).run Try.prog w = .ok (.enter f args) w) (hn : 0 ≤ n) (hn7 : n ≤ 7) (h : PeA w P n id m R c) (hJ : J 0 c) (hJm : ∀ k c, J k c → J (k + 1) c)
    (hstep : ∀ (k : Nat) (s : Int) m1 R1 c1 w1, (k : Int) < n → 1 ≤ s → s ≤ n → s ≠ id → PeA w1 P n id m1 R1 c1 → J k c1 → (∀ b, m1.Own P b → m.Own P b ∨ w.heap.size ≤ b) → Ag (fun b => ¬ m.Own P b) w w1 →
      Calls Try.prog f (first.push (.int .i64 s) ++ caps) w1 fun e w' => e = .returned (.tuple #[]) ∧ Went P n id m1 R1 (step c1 s) w1 w' ∧ J (k + 1) (step c1 s)) :
    Calls Try.prog 32 #[.pointer (some ⟨P, 0, none⟩), .func (.func f) first caps] w fun e w' => e = .returned (.tuple #[]) ∧ Went P n id m R ((others n id).foldl step c) w w' ∧ J n.toNat ((others n id).foldl step c) := by
  refine (others_gen (fun k w' => Went P n id m R ((othersK k id).foldl step c) w w' ∧ J k ((othersK k id).foldl step c)) f first caps P n id w hent hn hn7 ⟨Went.refl h, hJ⟩ ?_ ?_ ?_).mono ?_
  · rintro k w1 ⟨⟨m1, R1, h1, _⟩, _⟩
    exact ⟨h1.obj.cell 6, h1.obj.cell 5⟩
  · rintro k w1 ⟨⟨m1, R1, h1, h2, h3, h4⟩, h5⟩ hk hid
    refine (hstep k _ m1 R1 _ w1 hk (by omega) (by omega) hid h1 h5 h2 h4).mono ?_
    rintro e w2 ⟨rfl, hw, hJ2⟩
    rw [othersK_take k id hid, List.foldl_append]
    exact ⟨⟨_, rfl⟩, Went.seq h2 h3 h4 hw, hJ2⟩
  · rintro k w1 h1 hk hid
    rw [othersK_skip k id hid]
    exact ⟨h1.1, hJm _ _ h1.2⟩
  · rintro e w2 ⟨rfl, h1⟩
    exact ⟨rfl, h1⟩
end
end Go.Proofs.Ythfofnfkopnbhaa
