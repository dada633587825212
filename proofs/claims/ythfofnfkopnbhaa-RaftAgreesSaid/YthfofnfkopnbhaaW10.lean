/- raft, the walk: others fed; win. -/
import Derived.Test.YthfofnfkopnbhaaZ9
namespace Go.Proofs.Ythfofnfkopnbhaa
open Go.RowKit Go.Maps Go.ChangeMaps
set_option linter.unusedVariables false
set_option linter.unusedSimpArgs false
set_option linter.unusedSectionVars false
set_option maxRecDepth 100000

/-- A leader's sizes, k letters on. -/
structure FJ (L : Nat) (D : List En) (k : Nat) (c : Cs En) : Prop where
  log : c.p.log = D
  out : c.out.length ≤ L + k
  role : c.p.role = 3
  nx : ∀ s, 1 ≤ c.p.next s ∧ c.p.next s ≤ (c.p.log.length : Int) + 1
theorem FJ.up {L k : Nat} {D : List En} {c : Cs En} (h : FJ L D k c) : FJ L D (k + 1) c := ⟨h.log, by have := h.out; omega, h.role, h.nx⟩
theorem FJ.step {L k : Nat} {D : List En} {id : Int} {c : Cs En} (h : FJ L D k c) (s : Int) : FJ L D (k + 1) (feedP En.term id c s) := by
  obtain ⟨n1, n2⟩ := h.nx s
  obtain ⟨f1, f2⟩ := from_le n2
  refine ⟨h.log, ?_, h.role, fun t => ?_⟩
  · have := h.out
    show (c.out ++ [_]).length ≤ _
    simp
    omega
  · show 1 ≤ setF c.p.next s (c.p.next s + ((fromP c.p.log (c.p.next s) 4).length : Int)) t ∧ setF c.p.next s (c.p.next s + ((fromP c.p.log (c.p.next s) 4).length : Int)) t ≤ (c.p.log.length : Int) + 1
    unfold setF
    by_cases e : t = s
    · rw [if_pos e]; omega
    · rw [if_neg e]; exact h.nx t
theorem others_mem {n id s : Int} (h1 : 1 ≤ s) (h2 : s ≤ n) (h3 : s ≠ id) : s ∈ others n id := by
  unfold others
  rw [List.mem_filter, List.mem_map]
  exact ⟨⟨(s - 1).toNat, by rw [List.mem_range]; omega, by omega⟩, by simpa using h3⟩
section
variable {w w' : World} {P : Nat} {n id : Int} {m : Pm} {R : Nat → Prop} {c c' : Cs En}
theorem PeR.key (h : PeR w P n id m R c) (h3 : c.p.role = 3) {s : Int} (h1 : 1 ≤ s) (h2 : s ≤ n) (hid : s ≠ id) : ∃ b, (s, b) ∈ m.M := by
  have hm := others_mem h1 h2 hid
  rw [← (h.keys h3).2] at hm
  obtain ⟨p, hp, rfl⟩ := List.mem_map.1 hm
  exact ⟨p.2, hp⟩
theorem feeds_any (h : PeA w P n id m R c) (hl : Lm c) (ho : c.out.length ≤ 40000) (hr : c.p.role = 3) (hnx : ∀ s, 1 ≤ c.p.next s ∧ c.p.next s ≤ (c.p.log.length : Int) + 1) (hn : 0 ≤ n) (hn7 : n ≤ 7) :
    Calls Try.prog 32 #[.pointer (some ⟨P, 0, none⟩), .func (.func 33) #[.pointer (some ⟨P, 0, none⟩)] #[]] w fun e w' => e = .returned (.tuple #[]) ∧ Went P n id m R ((others n id).foldl (feedP En.term id) c) w w' ∧ FJ c.out.length c.p.log n.toNat ((others n id).foldl (feedP En.term id) c) := by
  refine others_step (FJ c.out.length c.p.log) (feedP En.term id) 33 _ _ (enters_of Try.func33 (by kernel_rfl) rfl) hn hn7 h ⟨rfl, Nat.le_refl _, hr, hnx⟩ (fun _ _ h => h.up) ?_
  intro k s m1 R1 c1 w1 hk h1 h2 h3 hP hJ hO hA
  obtain ⟨b, hb⟩ := hP.r.key hJ.role h1 h2 h3
  refine (feed_any hP hb ⟨by rw [hJ.log]; exact hl.len, by rw [hJ.log]; exact hl.dat, by have := hJ.out; omega⟩ (hJ.nx s).1 (hJ.nx s).2).mono ?_
  rintro e w2 ⟨rfl, hw⟩
  exact ⟨rfl, hw, hJ.step s⟩
def noopE (t : Int) : En := ⟨t, 1, 0, 0, false, []⟩
theorem FJ.lm {L k : Nat} {D : List En} {c : Cs En} (h : FJ L D k c) (hD : D.length ≤ 90000) (hd : ∀ e ∈ D, e.data.length ≤ 100000000) (hL : L ≤ 40000) (hk : k ≤ 7) : Lm c := ⟨by rw [h.log]; exact hD, by rw [h.log]; exact hd, by have := h.out; omega⟩
theorem VtAt.len {v : Value} {l : List Int} (h : VtAt w v l) {b : Nat} (hb : v = .map (some b)) : ∃ (es : List MapEntry) (ck : Nat), w.heap[b]? = some (.map es.toArray ck) ∧ es.length = l.length := by
  rcases h with ⟨h, _⟩ | ⟨b', es, ck, h1, h2, h3, h4⟩
  · rw [h] at hb; cases hb
  · rw [h1] at hb; injection hb with hb; injection hb with hb; subst hb
    exact ⟨es, ck, h2, by have := congrArg List.length h4; simpa using this⟩
theorem Ag.allocs {K : Nat → Prop} {w X : World} (h : Ag K w X) (hs : X.heap.size = w.heap.size) (o : Obj) : Ag K (w.alloc o) (X.alloc o) := by
  refine ⟨h.os, h.tape, h.output, by simp [hs], fun k hk hK => ?_⟩
  rcases Nat.lt_or_ge k w.heap.size with h1 | h1
  · rw [heap_alloc_old X o (by omega), heap_alloc_old w o h1]
    exact h.block k h1 hK
  · have hk2 : k = w.heap.size := by simp at hk; omega
    subst hk2
    rw [heap_alloc_new w o, ← hs, heap_alloc_new X o]
theorem othersK_lt {k : Nat} {id s : Int} (h : s ∈ othersK k id) : s ≤ (k : Int) := by
  unfold othersK at h
  rw [List.mem_filter, List.mem_map] at h
  obtain ⟨⟨j, hj, rfl⟩, _⟩ := h
  rw [List.mem_range] at hj
  omega
/-- The map of the others is filled. -/
theorem wins_any {mb lb pb : Nat} {last : Int} (ho : Bk w P 54 (peV n id m c)) (h : PeR w P n id m R { c with p := { c.p with role := 1 } }) (hr3 : c.p.role = 3) (hv : m.ov = .map (some mb)) (hM : m.M = [])
    (hlb : Bk w lb 3 [.int .i64 last]) (hpb : Bk w pb 46 [.pointer (some ⟨P, 0, none⟩)]) (hl : ¬ m.Own P lb) (hp : ¬ m.Own P pb) (hl0 : 0 ≤ last) (hl1 : last ≤ 100000) (hN : ∀ s, c.p.next s = last + 1) (hA : ∀ s, c.p.mat s = 0) (hn : 0 ≤ n) (hn7 : n ≤ 7) :
    Calls Try.prog 32 #[.pointer (some ⟨P, 0, none⟩), .func (.func 66) #[] #[.pointer (some ⟨lb, 0, none⟩), .pointer (some ⟨pb, 0, none⟩)]] w fun e w' => e = .returned (.tuple #[]) ∧ Went P n id m R c w w' := by
  have hmbP : mb ≠ P := (h.lX mb (.inr (.inr (.inl hv)))).2
  refine (others_gen (fun k wX => ∃ m1, Bk wX P 54 (peV n id m1 c) ∧ PeR wX P n id m1 R { c with p := { c.p with role := 1 } } ∧ m1.ov = .map (some mb) ∧ m1.M.map Prod.fst = othersK k id ∧ (∀ b, m1.Own P b → m.Own P b ∨ w.heap.size ≤ b) ∧ Ag (fun b => ¬ m.Own P b) w wX) 66 #[] _ P n id w (enters_of Try.func66 (by kernel_rfl) rfl) hn hn7 ?_ ?_ ?_ ?_).mono ?_
  · exact ⟨m, ho, h, hv, by rw [hM]; rfl, fun b hb => .inl hb, Ag.refl _ _⟩
  · rintro k wX ⟨m1, h1, _⟩
    exact ⟨h1.cell 6, h1.cell 5⟩
  · rintro k wX ⟨m1, h1, h2, h3, h4, h5, h6⟩ hk hid
    have hlb' := hlb.ag h6 hl
    have hpb' := hpb.ag h6 hp
    refine (win1_any h2 h1.lt (h1.cell 13) h3 (by rw [h4]; exact fun hm => by have := othersK_lt hm; omega) (by omega) (by omega) (show (1 : Int) ≠ 3 by decide) (hlb'.cell 0) (hpb'.cell 0) hl0 hl1 (hN _) (hA _)).mono ?_
    rintro e w2 ⟨rfl, k1, k2, k3⟩
    refine ⟨⟨_, rfl⟩, { m1 with M := m1.M ++ [((k : Int) + 1, wX.heap.size)] }, h1.ag k2 hmbP.symm, k1, h3, ?_, ?_, h6.trans (k2.mono (fun b _ hno e => hno (e ▸ .inr (.inr (.inr (.inr (.inl hv)))))))⟩
    · show (m1.M ++ [_]).map Prod.fst = _
      rw [List.map_append, h4, othersK_take k id hid]
      rfl
    · rintro b (e | e | e | e | e | ⟨j, e⟩)
      · exact h5 b (.inl e)
      · exact h5 b (.inr (.inl e))
      · exact h5 b (.inr (.inr (.inl e)))
      · exact h5 b (.inr (.inr (.inr (.inl e))))
      · exact h5 b (.inr (.inr (.inr (.inr (.inl e)))))
      · rcases List.mem_append.1 e with e | e
        · exact h5 b (.inr (.inr (.inr (.inr (.inr ⟨j, e⟩)))))
        · simp at e
          rw [e.2]
          exact .inr h6.size
  · rintro k wX ⟨m1, h1, h2, h3, h4, h5, h6⟩ hk hid
    exact ⟨m1, h1, h2, h3, by rw [h4, othersK_skip k id hid], h5, h6⟩
  · rintro e w2 ⟨rfl, m1, h1, h2, h3, h4, h5, h6⟩
    refine ⟨rfl, m1, R, ⟨h1, h2.re rfl rfl rfl rfl rfl (fun e => by rw [hr3] at e; cases e) (fun _ => ⟨(by rw [h3]; exact fun e => nomatch e), h4⟩)⟩, h5, fun b hb => .inl hb, h6⟩
theorem put_q {c : Cs En} (e : En) : (putP c e).p.log = c.p.log ++ [e] ∧ (putP c e).out = c.out ∧ (putP c e).p.role = c.p.role ∧ (putP c e).p.next = c.p.next := by
  unfold putP
  have h := changed_p ({ c with p := { c.p with log := c.p.log ++ [e] } } : Cs En) ((c.p.log.length : Int) + 1)
  rw [h.1, h.2]
  exact ⟨rfl, rfl, rfl, rfl⟩
set_option maxHeartbeats 1000000 in
theorem win_any (h : PeA w P n id m R c) (hl : Lm c) (hlen : c.p.log.length ≤ 80000) (ho : c.out.length ≤ 30000) (hr : c.p.role = 2) (hv0 : c.p.votes.length ≤ 100) (hi1 : 1 ≤ id) (hi2 : id ≤ n) (hn7 : n ≤ 7) :
    Calls Try.prog 51 #[.pointer (some ⟨P, 0, none⟩)] w fun e w' => e = .returned (.tuple #[]) ∧ Went P n id m R (winP En.term noopE n id c) w w' := by
  obtain ⟨vb, hvv⟩ : ∃ vb, m.vv = .map (some vb) := by
    rcases h.r.vt with ⟨h1, _⟩ | ⟨b, _, _, h1, _⟩
    · exact absurd h1 (h.r.vn hr)
    · exact ⟨b, h1⟩
  obtain ⟨es, ck, hvm, hvl⟩ := h.r.vt.len hvv
  have hvlt : vb < w.heap.size := (Array.getElem?_eq_some_iff.1 hvm).1
  have hP := h.plt
  have hbA : Below w.heap.size w (w.alloc (.cells #[.pointer (some ⟨P, 0, none⟩)] 46)) := (Below.refl _ _).alloc (Nat.le_refl _) _
  have hAA := h.below hbA
  obtain ⟨c0, c1, c2, c3, c4, c5, c6, c7, c8, c9, c10, c11, c12, c13⟩ := hAA.cells
  rw [hvv] at c12
  have hvm2 := (hbA.block vb hvlt).trans hvm
  have hpb : Bk (w.alloc (.cells #[.pointer (some ⟨P, 0, none⟩)] 46)) w.heap.size 46 [.pointer (some ⟨P, 0, none⟩)] := Bk.new w _ _
  have hpc : (w.alloc (.cells #[.pointer (some ⟨P, 0, none⟩)] 46)).cell? ⟨w.heap.size, 0, none⟩ = some (.pointer (some ⟨P, 0, none⟩)) := hpb.cell 0
  have hza : (w.alloc (.cells #[.pointer (some ⟨P, 0, none⟩)] 46)).heap.size = w.heap.size + 1 := by simp
  have HVL := Lib.hid hvl
  have HZA := Lib.hid hza
  have H := Lib.hid h
  have HPB := Lib.hid hpb
  clear hvl hvv hvm hza h hpb
  go_enter Try.func51, Try.ntmps51
  go_wp2_with fail
  generalize (w.alloc (.cells #[.pointer (some ⟨P, 0, none⟩)] 46)) = wa at *
  have HM : ∀ k, Calls Try.prog 65 #[.pointer (some ⟨P, 0, none⟩), .int .i64 es.length] (wa.drewN k) fun e w' => e = .returned (.bool (decide (n / 2 < (es.length : Int)))) ∧ w' = wa.drewN k := fun k => (most_any (wa.drewN k) P n es.length c6 (by omega) hn7).mono fun e w' h => ⟨h.1, h.2.symm⟩
  have hln : ∀ k ty, (Builtin.len_ #[51] ty #[.map (some vb)]).run Try.prog (wa.drewN k) = .ok (.int .i64 es.length) (wa.drewN k) := fun k ty => by
    rw [Go.run_len_map (P := Try.prog) (wa.drewN k) 51 ty vb es.toArray ck (by kernel_rfl) hvm2]
    simp [goInt]
  go_quiet ((go_at_call 65; exact Calls.quiet_of_same (HM _)))
  have hbq : Below wa.heap.size wa (wa.drewN nq) := ⟨rfl, rfl, rfl, Nat.le_refl _, fun _ _ => rfl⟩
  have hB1 : Below w.heap.size w (wa.drewN nq) := hbA.trans (hbq.mono hbA.size)
  have hz1 : (wa.drewN nq).heap.size = wa.heap.size := rfl
  have HPB1 := Lib.hid (HPB.out.below hbq (Nat.lt_of_lt_of_eq (Nat.lt_succ_self _) HZA.out.symm))
  generalize wa.drewN nq = wb at *
  have HZB := Lib.hid (hz1.trans HZA.out)
  have HA1 := Lib.hid (H.out.below hB1)
  clear HM hln hbq hAA hbA c0 c1 c2 c3 c4 c5 c6 c7 c8 c9 c10 c11 c12 c13 hpc hvm2 HPB hz1 HZA
  obtain ⟨c0, c1, c2, c3, c4, c5, c6, c7, c8, c9, c10, c11, c12, c13⟩ := HA1.out.cells
  have hpc : wb.cell? ⟨w.heap.size, 0, none⟩ = some (.pointer (some ⟨P, 0, none⟩)) := HPB1.out.cell 0
  generalize hbb : decide (n / 2 < (es.length : Int)) = bb
  cases bb
  rotate_left 1
  · have HM2 := Lib.hid hbb
    clear hbb
    go_wp2_with fail
    refine (Last_any 0 wb m.lp c.p.log HA1.out.r.log.has).mono ?_
    rintro _ w1 ⟨rfl, hb1⟩
    have HA2 := Lib.hid (HA1.out.below hb1)
    have HPB2 := Lib.hid (HPB1.out.below hb1 HPB1.out.lt)
    obtain ⟨e0, e1, e2, e3, e4, e5, e6, e7, e8, e9, e10, e11, e12, e13⟩ := HA2.out.cells
    have e14 : w1.cell? ⟨w.heap.size, 0, none⟩ = some (.pointer (some ⟨P, 0, none⟩)) := HPB2.out.cell 0
    go_wp2_with fail
    have hB2 : Below w.heap.size w (w1.alloc (.cells #[.int .i64 c.p.log.length] 3)) := (hB1.trans (hb1.mono hB1.size)).alloc (by have := hB1.size; have := hb1.size; omega) _
    have hz2 : (w1.alloc (.cells #[.int .i64 c.p.log.length] 3)).heap.size = w1.heap.size + 1 := by simp
    have HLB : Hid (Bk (w1.alloc (.cells #[.int .i64 c.p.log.length] 3)) w1.heap.size 3 [.int .i64 c.p.log.length]) := Lib.hid (Bk.new w1 _ _)
    have HPB3 := Lib.hid (HPB2.out.alloc (.cells #[.int .i64 c.p.log.length] 3))
    generalize (w1.alloc (.cells #[.int .i64 c.p.log.length] 3)) = w2 at *
    have HA3 := Lib.hid (H.out.below hB2)
    have HZ2 := Lib.hid hz2
    clear hz2 e0 e1 e2 e3 e4 e5 e6 e7 e8 e9 e10 e11 e12 e13 e14 c0 c1 c2 c3 c4 c5 c6 c7 c8 c9 c10 c11 c12 c13 hpc hb1
    obtain ⟨c0, c1, c2, c3, c4, c5, c6, c7, c8, c9, c10, c11, c12, c13⟩ := HA3.out.cells
    have hpc : w2.cell? ⟨w.heap.size, 0, none⟩ = some (.pointer (some ⟨P, 0, none⟩)) := HPB3.out.cell 0
    have f8 := HA3.out.frozen 8
    have f9 := HA3.out.frozen 9
    have f13 := HA3.out.frozen 13
    have hmm := @run_makeMap Try.prog
    have hb4 : Below w2.heap.size w2 (w2.alloc (.map #[] 0)) := (Below.refl _ _).alloc (Nat.le_refl _) _
    have HA4 := Lib.hid (HA3.out.below hb4)
    obtain ⟨g0, g1, g2, g3, g4, g5, g6, g7, g8, g9, g10, g11, g12, g13⟩ := HA4.out.cells
    have hpc4 : (w2.alloc (.map #[] 0)).cell? ⟨w.heap.size, 0, none⟩ = some (.pointer (some ⟨P, 0, none⟩)) := (HPB3.out.alloc _).cell 0
    have i8 := HA4.out.frozen 8
    have i9 := HA4.out.frozen 9
    have i13 := HA4.out.frozen 13
    have hP2 : P < w2.heap.size := HA3.out.plt
    have hPn : P ≠ w.heap.size := by omega
    have k8 : ∀ v, Bk (w2.setCell ⟨P, 8, none⟩ v) P 54 ((peV n id m c).set 8 v) := fun v => HA3.out.obj.set 8 v
    have k9 : ∀ v v', Bk ((w2.setCell ⟨P, 8, none⟩ v).setCell ⟨P, 9, none⟩ v') P 54 (((peV n id m c).set 8 v).set 9 v') := fun v v' => (k8 v).set 9 v'
    have b8 : ∀ v, Bk (w2.setCell ⟨P, 8, none⟩ v) w.heap.size 46 [.pointer (some ⟨P, 0, none⟩)] := fun v => HPB3.out.far (fun e => hPn e.symm) v
    have b9 : ∀ v v', Bk ((w2.setCell ⟨P, 8, none⟩ v).setCell ⟨P, 9, none⟩ v') w.heap.size 46 [.pointer (some ⟨P, 0, none⟩)] := fun v v' => (b8 v).far (fun e => hPn e.symm) v'
    have a1 : ∀ v o, ((w2.setCell ⟨P, 8, none⟩ v).alloc o).cell? ⟨w.heap.size, 0, none⟩ = some (.pointer (some ⟨P, 0, none⟩)) := fun v o => ((b8 v).alloc o).cell 0
    have a2 : ∀ v v' o, (((w2.setCell ⟨P, 8, none⟩ v).setCell ⟨P, 9, none⟩ v').alloc o).cell? ⟨w.heap.size, 0, none⟩ = some (.pointer (some ⟨P, 0, none⟩)) := fun v v' o => ((b9 v v').alloc o).cell 0
    have a3 : ∀ v, (w2.setCell ⟨P, 8, none⟩ v).cell? ⟨w.heap.size, 0, none⟩ = some (.pointer (some ⟨P, 0, none⟩)) := fun v => (b8 v).cell 0
    have a4 : ∀ v v', ((w2.setCell ⟨P, 8, none⟩ v).setCell ⟨P, 9, none⟩ v').cell? ⟨w.heap.size, 0, none⟩ = some (.pointer (some ⟨P, 0, none⟩)) := fun v v' => (b9 v v').cell 0
    have a5 : ∀ v o, ((w2.setCell ⟨P, 8, none⟩ v).alloc o).cell? ⟨P, 9, none⟩ = some (.int .i64 c.p.leader) := fun v o => ((k8 v).alloc o).cell 9
    have a6 : ∀ v v' o, (((w2.setCell ⟨P, 8, none⟩ v).setCell ⟨P, 9, none⟩ v').alloc o).cell? ⟨P, 13, none⟩ = some m.ov := fun v v' o => ((k9 v v').alloc o).cell 13
    have a7 : ∀ v o, ((w2.setCell ⟨P, 8, none⟩ v).alloc o).frozen? ⟨P, 9, none⟩ = false := fun v o => ((k8 v).alloc o).frozen 9
    have a8 : ∀ v v' o, (((w2.setCell ⟨P, 8, none⟩ v).setCell ⟨P, 9, none⟩ v').alloc o).frozen? ⟨P, 13, none⟩ = false := fun v v' o => ((k9 v v').alloc o).frozen 13
    clear k8 k9 b8 b9
    go_region
    have hX : Ag (fun b => b ≠ P) w2 (((w2.setCell ⟨P, 8, none⟩ (.int .i64 3)).setCell ⟨P, 9, none⟩ (.int .i64 id)).setCell ⟨P, 13, none⟩ (.map (some w2.heap.size))) := (((Ag.refl _ w2).setCell (p := ⟨P, 8, none⟩) (fun _ hK => hK rfl) _).setCell (p := ⟨P, 9, none⟩) (fun _ hK => hK rfl) _).setCell (p := ⟨P, 13, none⟩) (fun _ hK => hK rfl) _
    have hXs : (((w2.setCell ⟨P, 8, none⟩ (.int .i64 3)).setCell ⟨P, 9, none⟩ (.int .i64 id)).setCell ⟨P, 13, none⟩ (.map (some w2.heap.size))).heap.size = w2.heap.size := by simp [World.setCell]
    have hR5 : PeR ((((w2.setCell ⟨P, 8, none⟩ (.int .i64 3)).setCell ⟨P, 9, none⟩ (.int .i64 id)).setCell ⟨P, 13, none⟩ (.map (some w2.heap.size))).alloc (.map #[] 0)).drew P n id { m with ov := .map (some w2.heap.size), M := [] } R { c with p := { c.p with role := 1, leader := id, next := fun _ => (c.p.log.length : Int) + 1, mat := fun _ => 0 } } := by
      have h1 := HA3.out.r.newOf hP2 (N := fun _ => (c.p.log.length : Int) + 1) (A := fun _ => 0) (r := 1) (fun e => by cases e) (by decide)
      have h2 := h1.ag ((hX.allocs hXs (.map #[] 0)).drew.mono (fun k _ hk => by
        rcases hk with hk | hk
        · exact hk.2
        · exact fun e => (h1.rr k hk).2 (.inl e)))
      exact h2.re rfl rfl rfl rfl rfl h2.vn h2.keys
    have hO5 : Bk ((((w2.setCell ⟨P, 8, none⟩ (.int .i64 3)).setCell ⟨P, 9, none⟩ (.int .i64 id)).setCell ⟨P, 13, none⟩ (.map (some w2.heap.size))).alloc (.map #[] 0)).drew P 54 (peV n id { m with ov := .map (some w2.heap.size), M := [] } { c with p := { c.p with role := 3, leader := id, next := fun _ => (c.p.log.length : Int) + 1, mat := fun _ => 0 } }) :=
      (((((HA3.out.obj.set 8 (.int .i64 3)).set 9 (.int .i64 id)).set 13 (.map (some w2.heap.size))).alloc (.map #[] 0)).drew : Bk _ _ _ _)
    have hA5 : Ag (fun b => b ≠ P) w2 ((((w2.setCell ⟨P, 8, none⟩ (.int .i64 3)).setCell ⟨P, 9, none⟩ (.int .i64 id)).setCell ⟨P, 13, none⟩ (.map (some w2.heap.size))).alloc (.map #[] 0)).drew := (hX.alloc _).drew
    have hz5 : ((((w2.setCell ⟨P, 8, none⟩ (.int .i64 3)).setCell ⟨P, 9, none⟩ (.int .i64 id)).setCell ⟨P, 13, none⟩ (.map (some w2.heap.size))).alloc (.map #[] 0)).drew.heap.size = w2.heap.size + 1 := by
      show (World.alloc _ _).heap.size = _
      rw [World.size_alloc, hXs]
    clear hX hXs a1 a2 a3 a4 a5 a6 a7 a8 f8 f9 f13 i8 i9 i13 g0 g1 g2 g3 g4 g5 g6 g7 g8 g9 g10 g11 g12 g13 c0 c1 c2 c3 c4 c5 c6 c7 c8 c9 c10 c11 c12 c13 hpc4 hpc hb4 HA4
    generalize ((((w2.setCell ⟨P, 8, none⟩ (.int .i64 3)).setCell ⟨P, 9, none⟩ (.int .i64 id)).setCell ⟨P, 13, none⟩ (.map (some w2.heap.size))).alloc (.map #[] 0)).drew = w5 at *
    have hmf : ∀ (fn : Fn) (first cap : Array Value) (w : World), (Instr.makeFunc fn first cap).run Try.prog w = .ok (.func fn first cap) w := fun _ _ _ _ => rfl
    have hown5 : ∀ b, ({ m with ov := .map (some w2.heap.size), M := [] } : Pm).Own P b → m.Own P b ∨ b = w2.heap.size := by
      rintro b (e | e | e | e | e | ⟨k, e⟩)
      · exact .inl (.inl e)
      · exact .inl (.inr (.inl e))
      · exact .inl (.inr (.inr (.inl e)))
      · exact .inl (.inr (.inr (.inr (.inl e))))
      · injection e with e; injection e with e; exact .inr e.symm
      · cases e
    have hs12 : w.heap.size < w1.heap.size := HPB2.out.lt
    have hnp : ¬ ({ m with ov := .map (some w2.heap.size), M := [] } : Pm).Own P w.heap.size := fun e => by
      have hz := HZ2.out
      rcases hown5 _ e with e | e
      · have := H.out.r.own _ e; omega
      · omega
    have hnl : ¬ ({ m with ov := .map (some w2.heap.size), M := [] } : Pm).Own P w1.heap.size := fun e => by
      have hz := HZ2.out
      rcases hown5 _ e with e | e
      · have := H.out.r.own _ e; omega
      · omega
    have hPB5 : Bk w5 w.heap.size 46 [.pointer (some ⟨P, 0, none⟩)] := HPB3.out.ag hA5 (fun e => hPn e.symm)
    have hLB5 : Bk w5 w1.heap.size 3 [.int .i64 c.p.log.length] := HLB.out.ag hA5 (by omega)
    have hpc5 : w5.cell? ⟨w.heap.size, 0, none⟩ = some (.pointer (some ⟨P, 0, none⟩)) := hPB5.cell 0
    have HW := wins_any hO5 hR5 rfl rfl rfl hLB5 hPB5 hnl hnp (by omega) (by omega) (fun _ => rfl) (fun _ => rfl) (by omega) hn7
    have HO5 := Lib.hid hown5
    have HA5 := Lib.hid hA5
    have HNP := Lib.hid hnp
    have HZ5 := Lib.hid hz5
    have HPB5 := Lib.hid hPB5
    clear hown5 hA5 hnp hnl hPB5 hLB5 hO5 hR5 hz5
    go_wp2_with fail
    refine HW.mono ?_
    rintro _ w6 ⟨rfl, m6, R6, hP6, hO6, hR6, hA6⟩
    have hpc6 : w6.cell? ⟨w.heap.size, 0, none⟩ = some (.pointer (some ⟨P, 0, none⟩)) := (HPB5.out.ag hA6 HNP.out).cell 0
    have HPut := put_peer (noopE 0) none 0 (fun _ => False) hP6 ⟨by show c.p.log.length ≤ 90000; omega, hl.dat, hl.out⟩ (Rd.none_ _ _ _ _ (fun _ => rfl)) (fun _ h => h.elim) (Nat.zero_le _)
    simp only [enA, enV, noopE, List.length_nil] at HPut
    clear HW
    go_wp2_with fail
    refine HPut.mono ?_
    rintro _ w7 ⟨rfl, hw7⟩
    obtain ⟨m7, R7, hP7, hO7, hR7, hA7⟩ := Went.seq hO6 hR6 hA6 hw7
    have hpc7 : w7.cell? ⟨w.heap.size, 0, none⟩ = some (.pointer (some ⟨P, 0, none⟩)) := (HPB5.out.ag hA7 HNP.out).cell 0
    have hP7 : PeA w7 P n id m7 R7 (putP { c with p := { c.p with role := 3, leader := id, next := fun _ => (c.p.log.length : Int) + 1, mat := fun _ => 0 } } (noopE c.p.T)) := hP7
    have hq := put_q (c := { c with p := { c.p with role := 3, leader := id, next := fun _ => (c.p.log.length : Int) + 1, mat := fun _ => 0 } }) (noopE c.p.T)
    generalize hc2 : putP { c with p := { c.p with role := 3, leader := id, next := fun _ => (c.p.log.length : Int) + 1, mat := fun _ => 0 } } (noopE c.p.T) = c2 at *
    obtain ⟨q1, q2, q3, q4⟩ := hq
    have hD : c2.p.log.length ≤ 90000 := by rw [q1]; simp; omega
    have hDd : ∀ e ∈ c2.p.log, e.data.length ≤ 100000000 := by
      rw [q1]
      intro e he
      rcases List.mem_append.1 he with he | he
      · exact hl.dat e he
      · simp at he; rw [he]; exact Nat.zero_le _
    have ho2 : c2.out.length ≤ 30000 := by rw [q2]; exact ho
    have hF := feeds_any hP7 ⟨hD, hDd, by omega⟩ (by omega) q3 (fun s => by rw [q4, q1]; simp; omega) (by omega) hn7
    have HC2 := Lib.hid hc2
    clear hP6 hO6 hR6 hA6 hpc6 hw7 HPut hc2 q1 q2 q3 q4
    go_wp2_with fail
    refine hF.mono ?_
    rintro _ w8 ⟨rfl, hw8, hJ8⟩
    obtain ⟨m8, R8, hP8, hO8, hR8, hA8⟩ := Went.seq hO7 hR7 hA7 hw8
    have hpc8 : w8.cell? ⟨w.heap.size, 0, none⟩ = some (.pointer (some ⟨P, 0, none⟩)) := (HPB5.out.ag hA8 HNP.out).cell 0
    have hS := settle_any hP8 (hJ8.lm hD hDd (by omega) (by omega)) hJ8.role hi1 hi2 hn7
    clear hF hw8 hO7 hR7 hA7 hpc7 hP7
    go_wp2_with fail
    refine hS.mono ?_
    rintro _ w9 ⟨rfl, hP9, hA9⟩
    clear hS
    go_wp2_with fail
    go_end0
    refine ⟨rfl, m8, R8, ?_, fun b hb => ?_, fun b hb => ?_, ?_⟩
    · unfold winP
      rw [if_pos (by rw [← HVL.out]; exact of_decide_eq_true HM2.out)]
      simp only [HC2.out]
      exact hP9
    · rcases hO8 b hb with h1 | h1
      · exact (HO5.out b h1).imp (fun x => x) (fun e => by have := HZ2.out; omega)
      · have := HZ5.out; have := HZ2.out; exact .inr (by omega)
    · exact (hR8 b hb).imp (fun x => x) (fun h1 => by have := HZ5.out; have := HZ2.out; omega)
    · have hz := HZ2.out
      have hz5 := HZ5.out
      have hs2 := hB2.size
      have a5 := HA5.out
      refine ⟨hA9.os.trans (hA8.os.trans (a5.os.trans hB2.os)), hA9.tape.trans (hA8.tape.trans (a5.tape.trans hB2.tape)), hA9.output.trans (hA8.output.trans (a5.output.trans hB2.output)), Nat.le_trans (Nat.le_trans hs2 a5.size) (Nat.le_trans hA8.size hA9.size), fun b hb hno => ?_⟩
      have hbP : b ≠ P := fun e => hno (.inl e)
      have l5 := a5.size
      have l8 := hA8.size
      refine (hA9.block b (by omega) hbP).trans ((hA8.block b (by omega) (fun e => ?_)).trans ((a5.block b (by omega) hbP).trans (hB2.block b hb)))
      rcases HO5.out b e with e | e
      · exact hno e
      · omega
  · have HM2 := Lib.hid hbb
    clear hbb
    go_wp2_with fail
    refine bodyPost_ret (results_none rfl _ _ _) rfl ?_
    refine ⟨rfl, ?_⟩
    unfold winP
    rw [if_neg (by rw [← HVL.out]; exact of_decide_eq_false HM2.out)]
    exact ⟨m, R, HA1.out, fun b hb => .inl hb, fun b hb => .inl hb, Ag.of_below _ hB1⟩
end
end Go.Proofs.Ythfofnfkopnbhaa

