/- raft, the walk: Tick. -/
import Derived.Test.YthfofnfkopnbhaaW13
import Derived.BigQuiet
namespace Go.Proofs.Ythfofnfkopnbhaa
open Go.RowKit Go.Maps Go.ChangeMaps
set_option linter.unusedVariables false
set_option linter.unusedSimpArgs false
set_option linter.unusedSectionVars false
set_option maxRecDepth 100000

/-- What is asked of a peer's numbers ahead of a call. -/
structure Ok (n id : Int) (c : Cs En) : Prop where
  i1 : 1 ≤ id
  i2 : id ≤ n
  n7 : n ≤ 7
  len : c.p.log.length ≤ 80000
  dat : ∀ e ∈ c.p.log, e.data.length ≤ 100000000
  t0 : 0 ≤ c.p.T
  t1 : c.p.T ≤ 1099511627776
  w0 : 0 ≤ c.p.waited
  w1 : c.p.waited ≤ 1000000000
  nx : c.p.role = 3 → ∀ s, 1 ≤ c.p.next s ∧ c.p.next s ≤ (c.p.log.length : Int) + 1
  vt : c.p.votes.length ≤ 90
section
variable {w w' : World} {P : Nat} {n id : Int} {m : Pm} {R : Nat → Prop} {c c' : Cs En}
theorem Ok.lm (h : Ok n id c) (ho : c.out.length ≤ 50000) : Lm c := ⟨by have := h.len; omega, h.dat, ho⟩
set_option maxHeartbeats 1000000 in
theorem tick1_any {pb db : Nat} (draw : Int) (h : PeA w P n id m R c) (hk : Ok n id c) (ho : c.out.length ≤ 20000) (hpb : Bk w pb 46 [.pointer (some ⟨P, 0, none⟩)]) (hdb : Bk w db 3 [.int .i64 draw]) (n1 : ¬ m.Own P pb) (n2 : ¬ m.Own P db) :
    Calls Try.prog 31 #[.pointer (some ⟨pb, 0, none⟩), .pointer (some ⟨db, 0, none⟩)] w fun e w' => e = .returned (.tuple #[]) ∧ Went P n id m R (tickP En.term noopE n id draw c) w w' := by
  obtain ⟨c0, c1, c2, c3, c4, c5, c6, c7, c8, c9, c10, c11, c12, c13⟩ := h.cells
  have hpc : w.cell? ⟨pb, 0, none⟩ = some (.pointer (some ⟨P, 0, none⟩)) := hpb.cell 0
  have hmf : ∀ (fn : Fn) (first cap : Array Value) (w : World), (Instr.makeFunc fn first cap).run Try.prog w = .ok (.func fn first cap) w := fun _ _ _ _ => rfl
  by_cases hr : c.p.role = 3
  · have HF := feeds_any h (hk.lm (by omega)) (by omega) hr (hk.nx hr) (by have := hk.i1; have := hk.i2; omega) hk.n7
    have hrb : (c.p.role == 3) = true := by simp [hr]
    have HR := Lib.hid hr
    clear h hr
    go_enter Try.func31, Try.ntmps31
    go_wp2_with fail
    refine HF.mono ?_
    rintro _ w1 ⟨rfl, hw, _⟩
    clear HF
    go_wp2_with fail
    refine bodyPost_ret (results_none rfl _ _ _) rfl ⟨rfl, ?_⟩
    unfold tickP
    rw [if_pos HR.out]
    exact hw
  · have hrb : (c.p.role == 3) = false := by simp [hr]
    have HR := Lib.hid hr
    have f10 := h.frozen 10
    have HK := Lib.hid hk
    have hw0 := hk.w0
    have hw1 := hk.w1
    have hPB : P ≠ pb := fun e => n1 (.inl e.symm)
    have hPD : P ≠ db := fun e => n2 (.inl e.symm)
    have H2 : Hid (PeA (w.setCell ⟨P, 10, none⟩ (.int .i64 (c.p.waited + 1))) P n id m R { c with p := { c.p with waited := c.p.waited + 1 } }) := Lib.hid (h.set 10 _ rfl (h.r.re rfl rfl rfl rfl rfl h.r.vn h.r.keys))
    clear h hr hk
    go_enter Try.func31, Try.ntmps31
    go_wp2_with fail
    have HPB := Lib.hid (hpb.far (p := ⟨P, 10, none⟩) (fun e => hPB e.symm) (.int .i64 (c.p.waited + 1)))
    have HDB := Lib.hid (hdb.far (p := ⟨P, 10, none⟩) (fun e => hPD e.symm) (.int .i64 (c.p.waited + 1)))
    have HG : Hid (Ag (fun b => b ≠ P) w (w.setCell ⟨P, 10, none⟩ (.int .i64 (c.p.waited + 1)))) := Lib.hid ((Ag.refl _ w).setCell (p := ⟨P, 10, none⟩) (fun _ hK => hK rfl) _)
    have HZ : Hid ((w.setCell ⟨P, 10, none⟩ (.int .i64 (c.p.waited + 1))).heap.size = w.heap.size) := Lib.hid (by simp [World.setCell])
    clear c0 c1 c2 c3 c4 c5 c6 c7 c8 c9 c10 c11 c12 c13 f10 hpc hpb hdb
    generalize (w.setCell ⟨P, 10, none⟩ (.int .i64 (c.p.waited + 1))) = w2 at *
    obtain ⟨c0, c1, c2, c3, c4, c5, c6, c7, c8, c9, c10, c11, c12, c13⟩ := H2.out.cells
    have hpc : w2.cell? ⟨pb, 0, none⟩ = some (.pointer (some ⟨P, 0, none⟩)) := HPB.out.cell 0
    have hdc : w2.cell? ⟨db, 0, none⟩ = some (.int .i64 draw) := HDB.out.cell 0
    have h2 : ∀ k, PeA (w2.drewN k) P n id m R { c with p := { c.p with waited := c.p.waited + 1 } } := fun k => H2.out.below ⟨rfl, rfl, rfl, Nat.le_refl _, fun _ _ => rfl⟩
    have hend : ∀ k, Went P n id m R { c with p := { c.p with waited := c.p.waited + 1 } } w (w2.drewN k) := fun k => ⟨m, R, h2 k, fun b hb => .inl hb, fun b hb => .inl hb, ⟨HG.out.os, HG.out.tape, HG.out.output, HG.out.size, fun b hb hno => HG.out.block b hb (fun e => hno (.inl e))⟩⟩
    have H2N := Lib.hid h2
    have HE := Lib.hid hend
    clear h2 hend
    by_cases h1 : c.p.limit ≤ c.p.waited + 1
    · have d1 : decide (c.p.limit ≤ c.p.waited + 1) = true := decide_eq_true h1
      by_cases h2 : c.p.T < 1099511627776
      · have d2 : decide (c.p.T < 1099511627776) = true := decide_eq_true h2
        go_quiet (fail)
        have HS := stand_any draw (H2N.out nq) ⟨(HK.out.lm (by omega)).len, HK.out.dat, (HK.out.lm (by omega)).out⟩ HK.out.len ho HK.out.t0 h2 HK.out.i1 HK.out.i2 HK.out.n7
        have H12 : Hid (c.p.limit ≤ c.p.waited + 1 ∧ c.p.T < 1099511627776) := Lib.hid ⟨h1, h2⟩
        clear h1 h2
        go_wp2_with fail
        refine HS.mono ?_
        rintro _ w3 ⟨rfl, hw⟩
        clear HS
        go_wp2_with fail
        go_end0
        refine ⟨rfl, ?_⟩
        unfold tickP
        rw [if_neg HR.out]
        simp only
        rw [if_pos H12.out]
        exact Went.seq (fun b hb => .inl hb) (fun b hb => .inl hb) ⟨HG.out.os, HG.out.tape, HG.out.output, HG.out.size, fun b hb hno => HG.out.block b hb (fun e => hno (.inl e))⟩ (w1 := w2.drewN nq) hw
      · have d2 : decide (c.p.T < 1099511627776) = false := decide_eq_false h2
        go_quiet (fail)
        go_wp2_with fail
        go_end0
        refine ⟨rfl, ?_⟩
        unfold tickP
        rw [if_neg HR.out]
        simp only
        rw [if_neg (fun h => by have := h.2; omega)]
        exact HE.out _
    · have d1 : decide (c.p.limit ≤ c.p.waited + 1) = false := decide_eq_false h1
      go_quiet (fail)
      go_wp2_with fail
      go_end0
      refine ⟨rfl, ?_⟩
      unfold tickP
      rw [if_neg HR.out]
      simp only
      rw [if_neg (fun h => by have := h.1; omega)]
      exact HE.out _
theorem Told.out {w3 w4 w5 : World} {x : Nat} {e : Ending} (h : Told P n id m x c' w3 e w4) (hb : Below w.heap.size w w3) (hown : ∀ b, m.Own P b → b < w.heap.size) {rb : Nat} (h1 : w.heap.size ≤ rb) (h2 : rb < w3.heap.size) (ha : Ag (fun b => b ≠ rb) w4 w5) : Told P n id m x c' w e w5 := by
  obtain ⟨lv, m', h3, h4, h5, h6, h7⟩ := h
  have hs := hb.size
  have hs6 := h6.size
  have hr : ∀ b, m'.Own P b → b ≠ rb := fun b hb' e => by
    rcases h5 b hb' with h8 | h8
    · have := hown b h8; omega
    · omega
  refine ⟨lv, m', h3, h4.ag (ha.mono (fun b _ hb' => hb'.elim (hr b) (fun h => h.elim))), fun b hb' => (h5 b hb').imp (fun x => x) (fun h => by omega), ⟨ha.os.trans (h6.os.trans hb.os), ha.tape.trans (h6.tape.trans hb.tape), ha.output.trans (h6.output.trans hb.output), by have := ha.size; omega, fun b hb' hno => ?_⟩, h7.keep (fun b hb' => ha.block b hb'.1 (fun e => ?_)) (fun b hb' => ⟨by have := ha.size; have := hb'.1; omega, hb'.2.1, hb'.2.2.imp (fun x => x) (fun h => by omega)⟩)⟩
  · exact (ha.block b (by omega) (by omega)).trans ((h6.block b (by omega) hno).trans (hb.block b hb'))
  · rcases hb'.2.2 with h8 | h8
    · have := hown b h8; omega
    · omega
theorem ag5 (w : World) (r : Nat) (z0 z1 z2 z3 z4 : Value) : Ag (fun b => b ≠ r) w (((((w.setCell ⟨r, 0, none⟩ z0).setCell ⟨r, 1, none⟩ z1).setCell ⟨r, 2, none⟩ z2).setCell ⟨r, 3, none⟩ z3).setCell ⟨r, 4, none⟩ z4) :=
  (((((Ag.refl _ w).setCell (p := ⟨r, 0, none⟩) (fun _ hK => hK rfl) _).setCell (p := ⟨r, 1, none⟩) (fun _ hK => hK rfl) _).setCell (p := ⟨r, 2, none⟩) (fun _ hK => hK rfl) _).setCell (p := ⟨r, 3, none⟩) (fun _ hK => hK rfl) _).setCell (p := ⟨r, 4, none⟩) (fun _ hK => hK rfl) _
theorem bk5 {w : World} {r : Nat} {t : TypeId} {y0 y1 y2 y3 y4 : Value} (h : Bk w r t [y0, y1, y2, y3, y4]) (z0 z1 z2 z3 z4 : Value) : Bk (((((w.setCell ⟨r, 0, none⟩ z0).setCell ⟨r, 1, none⟩ z1).setCell ⟨r, 2, none⟩ z2).setCell ⟨r, 3, none⟩ z3).setCell ⟨r, 4, none⟩ z4) r t [z0, z1, z2, z3, z4] :=
  ((((h.set 0 z0).set 1 z1).set 2 z2).set 3 z3).set 4 z4
theorem LsAt.form {K : Nat → Prop} {v : Value} {ls : List (Lt En)} (h : LsAt w K v ls) : ∃ A cap, v = .slice A ls.length cap := by
  obtain ⟨g, ds, h1, _⟩ := h
  rcases h1.2 with ⟨e, e2⟩ | ⟨cap, cur, e, _⟩
  · rw [e2]; exact ⟨_, _, e⟩
  · exact ⟨_, _, e⟩
set_option maxHeartbeats 1000000 in
theorem tick_any (draw : Int) (h : PeA w P n id m R c) (hk : Ok n id ⟨c.p, 0, []⟩) :
    Calls Try.prog 13 #[.pointer (some ⟨P, 0, none⟩), .int .i64 draw] w fun e w' => Told P n id m P (tickP En.term noopE n id draw ⟨c.p, 0, []⟩) w e w' := by
  have hmf : ∀ (fn : Fn) (first cap : Array Value) (w : World), (Instr.makeFunc fn first cap).run Try.prog w = .ok (.func fn first cap) w := fun _ _ _ _ => rfl
  obtain ⟨cT, hcT⟩ : ∃ cT, tickP En.term noopE n id draw ⟨c.p, 0, []⟩ = cT := ⟨_, rfl⟩
  rw [hcT]
  have HCT := Lib.hid hcT
  clear hcT
  have H := Lib.hid h
  have hP := h.plt
  clear h
  go_enter Try.func13, Try.ntmps13
  go_wp2_with fail
  have hb : Below w.heap.size w (((w.alloc (.cells #[.pointer (some ⟨P, 0, none⟩)] 46)).alloc (.cells #[.int .i64 draw] 3)).alloc (.cells #[.int .i64 0, .int .i64 0, .int .i64 0, .int .i64 0, .slice none 0 0] 48)) := (((Below.refl _ _).alloc (Nat.le_refl _) _).alloc (by simp) _).alloc (by simp; omega) _
  have hz : (((w.alloc (.cells #[.pointer (some ⟨P, 0, none⟩)] 46)).alloc (.cells #[.int .i64 draw] 3)).alloc (.cells #[.int .i64 0, .int .i64 0, .int .i64 0, .int .i64 0, .slice none 0 0] 48)).heap.size = w.heap.size + 3 := by simp
  have b1 : Bk (((w.alloc (.cells #[.pointer (some ⟨P, 0, none⟩)] 46)).alloc (.cells #[.int .i64 draw] 3)).alloc (.cells #[.int .i64 0, .int .i64 0, .int .i64 0, .int .i64 0, .slice none 0 0] 48)) w.heap.size 46 [.pointer (some ⟨P, 0, none⟩)] := ((Bk.new w _ _).alloc _).alloc _
  have b2 : Bk (((w.alloc (.cells #[.pointer (some ⟨P, 0, none⟩)] 46)).alloc (.cells #[.int .i64 draw] 3)).alloc (.cells #[.int .i64 0, .int .i64 0, .int .i64 0, .int .i64 0, .slice none 0 0] 48)) (w.heap.size + 1) 3 [.int .i64 draw] := by
    have := Bk.new (w.alloc (.cells #[.pointer (some ⟨P, 0, none⟩)] 46)) 3 [.int .i64 draw]
    rw [World.size_alloc] at this
    exact this.alloc _
  have b3 : Bk (((w.alloc (.cells #[.pointer (some ⟨P, 0, none⟩)] 46)).alloc (.cells #[.int .i64 draw] 3)).alloc (.cells #[.int .i64 0, .int .i64 0, .int .i64 0, .int .i64 0, .slice none 0 0] 48)) (w.heap.size + 1 + 1) 48 [.int .i64 0, .int .i64 0, .int .i64 0, .int .i64 0, .slice none 0 0] := by
    have := Bk.new ((w.alloc (.cells #[.pointer (some ⟨P, 0, none⟩)] 46)).alloc (.cells #[.int .i64 draw] 3)) 48 [.int .i64 0, .int .i64 0, .int .i64 0, .int .i64 0, .slice none 0 0]
    rw [World.size_alloc, World.size_alloc] at this
    exact this
  generalize (((w.alloc (.cells #[.pointer (some ⟨P, 0, none⟩)] 46)).alloc (.cells #[.int .i64 draw] 3)).alloc (.cells #[.int .i64 0, .int .i64 0, .int .i64 0, .int .i64 0, .slice none 0 0] 48)) = w3 at *
  have hown : ∀ b, m.Own P b → b < w.heap.size := H.out.r.own
  refine (call_any 31 _ P (fun _ => True) (fun _ _ _ _ => trivial) (enters_of Try.func31 (by kernel_rfl) rfl) (H.out.below hb) (by have := hk.i1; omega) (by omega) (c' := cT) ?_).mono ?_
  · intro w1 hP1 hA1
    have hsub : ∀ b, ({ m with lv := .slice none 0 0, ds := [] } : Pm).Own P b → m.Own P b := by
      rintro b (e | e | e | e)
      · exact .inl e
      · exact .inr (.inl e)
      · cases e
      · exact .inr (.inr (.inr e))
    refine (tick1_any draw hP1 hk (Nat.zero_le _) (b1.ag hA1 (by omega)) (b2.ag hA1 (by omega)) (fun e => by have := hown _ (hsub _ e); omega) (fun e => by have := hown _ (hsub _ e); omega)).mono ?_
    rintro e w2 ⟨rfl, m2, R2, h1, h2, h3, h4⟩
    rw [HCT.out] at h1
    exact ⟨rfl, trivial, m2, R2, h1, fun b hb' => (h2 b hb').imp (hsub b) (fun x => x), fun b hb' => (h3 b hb').elim (fun h => h.elim) (fun x => x), h4.mono (fun b _ hb' e => hb'.1 (hsub b e))⟩
  rintro e w4 ⟨hT, _⟩
  have HT := Lib.hid hT
  obtain ⟨lv, m', rfl, h4, h5, h6, h7⟩ := hT
  obtain ⟨A, cap, rfl⟩ := h7.form
  have hrb : ¬ m.Own P (w.heap.size + 1 + 1) := fun e => by have := hown _ e; omega
  have b4 := b3.ag h6 ⟨hrb, by omega⟩
  obtain ⟨e0, e1, e2, e3, e4⟩ := cells5 b4
  have ef := b4.frozen
  have HB4 := Lib.hid b4
  clear h4 h5 h6 h7 b1 b2 b3 b4 hrb
  unfold outV
  go_wp2_with fail
  obtain ⟨q0, q1, q2, q3, q4⟩ := cells5 (bk5 HB4.out (.int .i64 cT.p.T) (.int .i64 cT.p.V) (.int .i64 cT.frm) (.int .i64 cT.p.C) (.slice A cT.out.length cap))
  have hA5 := ag5 w4 (w.heap.size + 1 + 1) (.int .i64 cT.p.T) (.int .i64 cT.p.V) (.int .i64 cT.frm) (.int .i64 cT.p.C) (.slice A cT.out.length cap)
  generalize (((((w4.setCell ⟨w.heap.size + 1 + 1, 0, none⟩ (.int .i64 cT.p.T)).setCell ⟨w.heap.size + 1 + 1, 1, none⟩ (.int .i64 cT.p.V)).setCell ⟨w.heap.size + 1 + 1, 2, none⟩ (.int .i64 cT.frm)).setCell ⟨w.heap.size + 1 + 1, 3, none⟩ (.int .i64 cT.p.C)).setCell ⟨w.heap.size + 1 + 1, 4, none⟩ (.slice A cT.out.length cap)) = w5 at *
  exact bodyPost_ret (v := outV cT (.slice A cT.out.length cap)) (by simp [results, Try.results13, go_sem, outV, q0, q1, q2, q3, q4]) rfl (HT.out.out hb hown (by omega) (by omega) hA5)
end
end Go.Proofs.Ythfofnfkopnbhaa

