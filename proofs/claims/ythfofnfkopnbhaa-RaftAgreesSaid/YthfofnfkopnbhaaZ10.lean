/- raft, the walk: call. raft, the walk: stand. -/
import Derived.Test.YthfofnfkopnbhaaW10
namespace Go.Proofs.Ythfofnfkopnbhaa
open Go.RowKit Go.Maps Go.ChangeMaps
set_option linter.unusedVariables false
set_option linter.unusedSimpArgs false
set_option linter.unusedSectionVars false
set_option maxRecDepth 100000

/-- A row of letters, in blocks of which K holds. -/
def LsAt (w : World) (K : Nat → Prop) (v : Value) (ls : List (Lt En)) : Prop :=
  ∃ g ds, Row w 40 10 v g ls.length (rowL ls ds) ∧ ds.length = ls.length ∧ (v.ownBlock = some g → K g) ∧ ∀ (i : Nat) (l : Lt En) (d : Option Addr × Nat), ls[i]? = some l → ds[i]? = some d → Ents w K d.1 d.2 l.ents
theorem LsAt.keep {w w' : World} {K K' : Nat → Prop} {v : Value} {ls : List (Lt En)} (h : LsAt w K v ls) (hk : ∀ b, K b → w'.heap[b]? = w.heap[b]?) (hK : ∀ b, K b → K' b) : LsAt w' K' v ls := by
  obtain ⟨g, ds, h1, h2, h3, h4⟩ := h
  exact ⟨g, ds, h1.keep (fun e => hk g (h3 e)), h2, fun e => hK g (h3 e), fun i l d hi hd => (h4 i l d hi hd).keep hk hK⟩
/-- What a call tells. -/
def outV (c : Cs En) (lv : Value) : Value := .agg #[.int .i64 c.p.T, .int .i64 c.p.V, .int .i64 c.frm, .int .i64 c.p.C, lv]
def out0 : Value := .agg #[.int .i64 0, .int .i64 0, .int .i64 0, .int .i64 0, .slice none 0 0]
section
variable {w w' : World} {P : Nat} {n id : Int} {m : Pm} {R : Nat → Prop} {c c' : Cs En}
theorem call_no (w : World) (v fv : Value) (h : NoP w v) : Calls Try.prog 26 #[v, fv] w fun e w' => e = .returned out0 ∧ Below w.heap.size w w' := by
  have hb : Below w.heap.size w (w.alloc (.cells #[.int .i64 0, .int .i64 0, .int .i64 0, .int .i64 0, .slice none 0 0] 48)) := (Below.refl _ _).alloc (Nat.le_refl _) _
  have hn : NoP (w.alloc (.cells #[.int .i64 0, .int .i64 0, .int .i64 0, .int .i64 0, .slice none 0 0] 48)) v := by
    rcases h with h | ⟨g, h1, h2⟩
    · exact .inl h
    · exact .inr ⟨g, h1, (World.cell?_of_block (heap_alloc_old w _ (World.block_lt_of_cell? w _ h2))).trans h2⟩
  have H := Lib.hid hn
  have HB := Lib.hid hb
  clear h hn hb
  go_enter Try.func26, Try.ntmps26
  go_wp2_with (go_at_call 25; refine (there_false _ v H.out).mono ?_; rintro _ w1 ⟨rfl, rfl⟩)
  have hbn := Bk.new w 48 [.int .i64 0, .int .i64 0, .int .i64 0, .int .i64 0, .slice none 0 0]
  have HB' := HB.out
  generalize (w.alloc (.cells #[.int .i64 0, .int .i64 0, .int .i64 0, .int .i64 0, .slice none 0 0] 48)) = wa at *
  have e0 : wa.cell? ⟨w.heap.size, 0, none⟩ = some (.int .i64 0) := hbn.cell 0
  have e1 : wa.cell? ⟨w.heap.size, 1, none⟩ = some (.int .i64 0) := hbn.cell 1
  have e2 : wa.cell? ⟨w.heap.size, 2, none⟩ = some (.int .i64 0) := hbn.cell 2
  have e3 : wa.cell? ⟨w.heap.size, 3, none⟩ = some (.int .i64 0) := hbn.cell 3
  have e4 : wa.cell? ⟨w.heap.size, 4, none⟩ = some (.slice none 0 0) := hbn.cell 4
  refine bodyPost_ret (v := out0) (by simp [results, Try.results26, go_sem, out0, e0, e1, e2, e3, e4]) rfl ⟨rfl, HB'⟩
/-- The peer's letters are put aside, or begun anew: its own cell alone. -/
theorem PeA.lvNil (h : PeA w P n id m R c) : PeA (w.setCell ⟨P, 4, none⟩ (.slice none 0 0)) P n id { m with lv := .slice none 0 0, ds := [] } (fun _ => False) { c with out := [] } ∧ ∀ b, ({ m with lv := .slice none 0 0, ds := [] } : Pm).Own P b → m.Own P b := by
  have hr := h.r
  have hsub : ∀ b, ({ m with lv := .slice none 0 0, ds := [] } : Pm).Oth b → m.Oth b := by
    rintro b (e | e)
    · cases e
    · exact .inr e
  have hsub2 : ∀ b, ({ m with lv := .slice none 0 0, ds := [] } : Pm).Own P b → m.Own P b := by
    rintro b (e | e | e)
    · exact .inl e
    · exact .inr (.inl e)
    · exact .inr (.inr (hsub b e))
  have h1 : PeR w P n id { m with lv := .slice none 0 0, ds := [] } (fun _ => False) { c with out := [] } :=
    ⟨hr.log, Row.nil _ _ _ _, rfl, fun i l d hi => by simp at hi, hr.vt, hr.vn, hr.of, hr.srv, hr.keys, fun b hb => hr.own b (hsub2 b hb), fun b hb => hb.elim, hr.lP, fun b hb => hr.lX b (hsub b hb), hr.vo, hr.mnd⟩
  refine ⟨⟨h.obj.set 4 _, h1.ag ?_⟩, hsub2⟩
  exact (Ag.refl _ w).setCell (fun _ hK => hK.elim (fun h => h.2 rfl) (fun h => h.elim)) _
theorem PeR.ls (h : PeR w P n id m R c) : LsAt w (fun b => m.lv.ownBlock = some b ∨ R b) m.lv c.out :=
  ⟨m.g, m.ds, h.row, h.dlen, .inl, fun i l d hi hd => (h.ents i l d hi hd).keep (fun _ _ => rfl) (fun _ h => .inr h)⟩
theorem cells5 {w : World} {g : Nat} {c0 c1 c2 c3 c4 : Value} {t : TypeId} (h : Bk w g t [c0, c1, c2, c3, c4]) :
    w.cell? ⟨g, 0, none⟩ = some c0 ∧ w.cell? ⟨g, 1, none⟩ = some c1 ∧ w.cell? ⟨g, 2, none⟩ = some c2 ∧ w.cell? ⟨g, 3, none⟩ = some c3 ∧ w.cell? ⟨g, 4, none⟩ = some c4 :=
  have hc := h.cell
  ⟨hc 0, hc 1, hc 2, hc 3, hc 4⟩
theorem PeR.lvOnly (h : PeR w P n id m R c) {b : Nat} (hb : m.lv.ownBlock = some b) : ¬ ({ m with lv := .slice none 0 0, ds := [] } : Pm).Own P b := by
  obtain ⟨_, cur, q⟩ := h.row.own' hb
  rintro (e | e | e | e | e | ⟨k, e⟩)
  · exact (h.lX b (.inl hb)).2 e
  · exact (h.lX b (.inl hb)).1 e
  · cases e
  · obtain ⟨es, ck, h1⟩ := h.vt.at_ e
    rw [q] at h1; cases h1
  · obtain ⟨es, ck, h1⟩ := h.of.at_ e
    rw [q] at h1; cases h1
  · have h3 := h.srv k b e
    unfold Bk at h3
    rw [q] at h3
    injection h3 with h3
    injection h3 with _ h3
    exact absurd h3 (by decide)
/-- What a call of the peer's leaves behind: the peer at rest, and what is told. -/
def Told (P : Nat) (n id : Int) (m : Pm) (x : Nat) (c' : Cs En) (w : World) (e : Ending) (w' : World) : Prop :=
  ∃ lv m', e = .returned (outV c' lv) ∧ PeA w' P n id m' (fun _ => False) { c' with out := [] } ∧ (∀ b, m'.Own P b → m.Own P b ∨ w.heap.size ≤ b) ∧ Ag (fun b => ¬ m.Own P b ∧ b ≠ x) w w' ∧
    LsAt w' (fun b => b < w'.heap.size ∧ ¬ m'.Own P b ∧ (m.Own P b ∨ w.heap.size ≤ b)) lv c'.out
set_option maxHeartbeats 1000000 in
theorem call_any (f : Nat) (caps : Array Value) (x : Nat) (G : World → Prop) (hG : ∀ w1 w2, G w1 → Ag (fun b => b ≠ P ∧ b < w.heap.size) w1 w2 → G w2) (hent : ∀ args w, (callFunc f args).run Try.prog w = .ok (.enter f args) w) (h : PeA w P n id m R c) (hid : 0 < id) (hx : x < w.heap.size)
    (hdo : ∀ w1, PeA w1 P n id { m with lv := .slice none 0 0, ds := [] } (fun _ => False) ⟨c.p, 0, []⟩ → Ag (fun b => b ≠ P) w w1 →
      Calls Try.prog f caps w1 fun e w' => e = .returned (.tuple #[]) ∧ G w' ∧ ∃ m' R', PeA w' P n id m' R' c' ∧ (∀ b, m'.Own P b → m.Own P b ∨ w1.heap.size ≤ b) ∧ (∀ b, R' b → w1.heap.size ≤ b) ∧ Ag (fun b => ¬ m.Own P b ∧ b ≠ x) w1 w') :
    Calls Try.prog 26 #[.pointer (some ⟨P, 0, none⟩), .func (.func f) #[] caps] w fun e w' => Told P n id m x c' w e w' ∧ G w' := by
  have hb : Below w.heap.size w (w.alloc (.cells #[.int .i64 0, .int .i64 0, .int .i64 0, .int .i64 0, .slice none 0 0] 48)) := (Below.refl _ _).alloc (Nat.le_refl _) _
  have hbn := Bk.new w 48 [.int .i64 0, .int .i64 0, .int .i64 0, .int .i64 0, .slice none 0 0]
  have hza : (w.alloc (.cells #[.int .i64 0, .int .i64 0, .int .i64 0, .int .i64 0, .slice none 0 0] 48)).heap.size = w.heap.size + 1 := by simp
  have hP := h.plt
  have HD := Lib.hid hdo
  have H := Lib.hid h
  clear hdo h
  go_enter Try.func26, Try.ntmps26
  go_wp2_with fail
  generalize (w.alloc (.cells #[.int .i64 0, .int .i64 0, .int .i64 0, .int .i64 0, .slice none 0 0] 48)) = wa at *
  have HA := Lib.hid (H.out.below hb)
  obtain ⟨c0, c1, c2, c3, c4, c5, c6, c7, c8, c9, c10, c11, c12, c13⟩ := HA.out.cells
  have f2 := HA.out.frozen 2
  have f4 := HA.out.frozen 4
  refine (there_true wa P id c5 hid).mono ?_
  rintro _ w0 ⟨rfl, rfl⟩
  have hP1 : PeA ((wa.setCell ⟨P, 2, none⟩ (.int .i64 0)).setCell ⟨P, 4, none⟩ (.slice none 0 0)) P n id { m with lv := .slice none 0 0, ds := [] } (fun _ => False) ⟨c.p, 0, []⟩ :=
    (HA.out.set (c' := { c with frm := 0 }) 2 _ rfl (HA.out.r.re rfl rfl rfl rfl rfl HA.out.r.vn HA.out.r.keys)).lvNil.1
  have hA1 : Ag (fun b => b ≠ P) w ((wa.setCell ⟨P, 2, none⟩ (.int .i64 0)).setCell ⟨P, 4, none⟩ (.slice none 0 0)) := ((Ag.of_below _ hb).setCell (p := ⟨P, 2, none⟩) (fun _ hK => hK rfl) _).setCell (p := ⟨P, 4, none⟩) (fun _ hK => hK rfl) _
  have hdo := HD.out _ hP1 hA1
  have hz1 : ((wa.setCell ⟨P, 2, none⟩ (.int .i64 0)).setCell ⟨P, 4, none⟩ (.slice none 0 0)).heap.size = wa.heap.size := by simp [World.setCell]
  have HB1 : Hid (Bk ((wa.setCell ⟨P, 2, none⟩ (.int .i64 0)).setCell ⟨P, 4, none⟩ (.slice none 0 0)) w.heap.size 48 [.int .i64 0, .int .i64 0, .int .i64 0, .int .i64 0, .slice none 0 0]) := Lib.hid ((hbn.far (by show w.heap.size ≠ P; omega) _).far (by show w.heap.size ≠ P; omega) _)
  have HZ1 := Lib.hid hz1
  have HZA := Lib.hid hza
  have HB := Lib.hid hb
  have HA1 := Lib.hid hA1
  clear hP1 hA1 hz1 hza hb hbn
  go_wp2_with fail
  refine hdo.mono ?_
  rintro _ w2 ⟨rfl, hG2, m2, R2, hP2, hO2, hR2, hA2⟩
  have hnw : ¬ m.Own P w.heap.size := fun e => by have := H.out.r.own _ e; omega
  have hB2 : Bk w2 w.heap.size 48 [.int .i64 0, .int .i64 0, .int .i64 0, .int .i64 0, .slice none 0 0] := HB1.out.ag hA2 ⟨hnw, by omega⟩
  have HP2 := Lib.hid hP2
  have HG2 := Lib.hid hG2
  have HO2 := Lib.hid hO2
  have HR2 := Lib.hid hR2
  have HA2 := Lib.hid hA2
  have HB2 := Lib.hid hB2
  clear hdo hP2 hG2 hO2 hR2 hA2 hB2 c0 c1 c2 c3 c4 c5 c6 c7 c8 c9 c10 c11 c12 c13 f2 f4
  obtain ⟨c0, c1, c2, c3, c4, _⟩ := HP2.out.cells
  obtain ⟨A, k, cap, hlv⟩ : ∃ A k cap, m2.lv = .slice A k cap := by
    rcases HP2.out.r.row.2 with ⟨e, _⟩ | ⟨cap, cur, e, _⟩
    · exact ⟨_, _, _, e⟩
    · exact ⟨_, _, _, e⟩
  have HLV := Lib.hid hlv
  rw [hlv] at c4
  clear hlv
  have hb3 : ∀ o, Below w2.heap.size w2 (w2.alloc o) := fun o => (Below.refl _ _).alloc (Nat.le_refl _) _
  have d4 : ∀ o, (w2.alloc o).cell? ⟨P, 4, none⟩ = some (.slice A k cap) := fun o => by rw [(HP2.out.below (hb3 o)).obj.cell 4]; show some m2.lv = _; rw [HLV.out]
  have f4 : ∀ o, (w2.alloc o).frozen? ⟨P, 4, none⟩ = false := fun o => (HP2.out.below (hb3 o)).frozen 4
  have hB3 : ∀ o v, Bk ((w2.alloc o).setCell ⟨P, 4, none⟩ v) w.heap.size 48 [.int .i64 0, .int .i64 0, .int .i64 0, .int .i64 0, .slice none 0 0] := fun o v => (HB2.out.alloc o).far (by show w.heap.size ≠ P; omega) v
  have t0 : ∀ o v, ((w2.alloc o).setCell ⟨P, 4, none⟩ v).cell? ⟨w.heap.size, 0, none⟩ = some (.int .i64 0) := fun o v => (hB3 o v).cell 0
  have t1 : ∀ o v, ((w2.alloc o).setCell ⟨P, 4, none⟩ v).cell? ⟨w.heap.size, 1, none⟩ = some (.int .i64 0) := fun o v => (hB3 o v).cell 1
  have t2 : ∀ o v, ((w2.alloc o).setCell ⟨P, 4, none⟩ v).cell? ⟨w.heap.size, 2, none⟩ = some (.int .i64 0) := fun o v => (hB3 o v).cell 2
  have t3 : ∀ o v, ((w2.alloc o).setCell ⟨P, 4, none⟩ v).cell? ⟨w.heap.size, 3, none⟩ = some (.int .i64 0) := fun o v => (hB3 o v).cell 3
  have t4 : ∀ o v, ((w2.alloc o).setCell ⟨P, 4, none⟩ v).cell? ⟨w.heap.size, 4, none⟩ = some (.slice none 0 0) := fun o v => (hB3 o v).cell 4
  have tf : ∀ o v j, ((w2.alloc o).setCell ⟨P, 4, none⟩ v).frozen? ⟨w.heap.size, j, none⟩ = false := fun o v j => (hB3 o v).frozen j
  have t5 : ∀ z0 z1 z2 z3 z4 v, ((w2.alloc (.cells #[z0, z1, z2, z3, z4] 48)).setCell ⟨P, 4, none⟩ v).cell? ⟨w2.heap.size, 4, none⟩ = some z4 := fun z0 z1 z2 z3 z4 v => ((Bk.new w2 48 [z0, z1, z2, z3, z4]).far (by show w2.heap.size ≠ P; have := HP2.out.plt; omega) v).cell 4
  have HB3 := Lib.hid hB3
  clear hB3 hb3
  go_wp2_with fail
  have hBF := ((((HB3.out (.cells #[.int .i64 c'.p.T, .int .i64 c'.p.V, .int .i64 c'.frm, .int .i64 c'.p.C, .slice A k cap] 48) (.slice none 0 0)).set 0 (.int .i64 c'.p.T)).set 1 (.int .i64 c'.p.V)).set 2 (.int .i64 c'.frm)).set 3 (.int .i64 c'.p.C) |>.set 4 (.slice A k cap)
  have hb3 : Below w2.heap.size w2 (w2.alloc (.cells #[.int .i64 c'.p.T, .int .i64 c'.p.V, .int .i64 c'.frm, .int .i64 c'.p.C, .slice A k cap] 48)) := (Below.refl _ _).alloc (Nat.le_refl _) _
  obtain ⟨hP4, hO4⟩ := (HP2.out.below hb3).lvNil
  generalize (w2.alloc (.cells #[.int .i64 c'.p.T, .int .i64 c'.p.V, .int .i64 c'.frm, .int .i64 c'.p.C, .slice A k cap] 48)) = w3 at *
  clear t0 t1 t2 t3 t4 tf t5
  have hA4 : Ag (fun b => b ≠ P) w2 (w3.setCell ⟨P, 4, none⟩ (.slice none 0 0)) := (Ag.of_below _ hb3).setCell (p := ⟨P, 4, none⟩) (fun _ hK => hK rfl) _
  generalize (w3.setCell ⟨P, 4, none⟩ (.slice none 0 0)) = w4 at *
  have hA5 : Ag (fun b => b ≠ w.heap.size) w4 (((((w4.setCell ⟨w.heap.size, 0, none⟩ (.int .i64 c'.p.T)).setCell ⟨w.heap.size, 1, none⟩ (.int .i64 c'.p.V)).setCell ⟨w.heap.size, 2, none⟩ (.int .i64 c'.frm)).setCell ⟨w.heap.size, 3, none⟩ (.int .i64 c'.p.C)).setCell ⟨w.heap.size, 4, none⟩ (.slice A k cap)) :=
    (((((Ag.refl _ w4).setCell (p := ⟨w.heap.size, 0, none⟩) (fun _ hK => hK rfl) _).setCell (p := ⟨w.heap.size, 1, none⟩) (fun _ hK => hK rfl) _).setCell (p := ⟨w.heap.size, 2, none⟩) (fun _ hK => hK rfl) _).setCell (p := ⟨w.heap.size, 3, none⟩) (fun _ hK => hK rfl) _).setCell (p := ⟨w.heap.size, 4, none⟩) (fun _ hK => hK rfl) _
  obtain ⟨e0, e1, e2, e3, e4⟩ := cells5 hBF
  generalize (((((w4.setCell ⟨w.heap.size, 0, none⟩ (.int .i64 c'.p.T)).setCell ⟨w.heap.size, 1, none⟩ (.int .i64 c'.p.V)).setCell ⟨w.heap.size, 2, none⟩ (.int .i64 c'.frm)).setCell ⟨w.heap.size, 3, none⟩ (.int .i64 c'.p.C)).setCell ⟨w.heap.size, 4, none⟩ (.slice A k cap)) = w5 at *
  have hza := HZA.out
  have hz1 := HZ1.out
  have s2 := HA2.out.size
  have s4 := hA4.size
  have s5 := hA5.size
  have a1 := HA1.out
  have hw2 : ∀ b, m2.Own P b → b ≠ w.heap.size := fun b hb e => by
    rcases HO2.out b hb with h1 | h1
    · exact hnw (e ▸ h1)
    · omega
  have hwR : ∀ b, R2 b → b ≠ w.heap.size := fun b hb e => by have := HR2.out b hb; omega
  refine bodyPost_ret (v := outV c' (.slice A k cap)) (by simp [results, Try.results26, go_sem, outV, e0, e1, e2, e3, e4]) rfl ⟨⟨.slice A k cap, _, rfl, hP4.ag (hA5.mono (fun b _ hb => hb.elim (fun h => hw2 b (hO4 b h)) (fun h => h.elim))), fun b hb => ?_, ?_, ?_⟩, ?_⟩
  · rcases HO2.out b (hO4 b hb) with h1 | h1
    · exact .inl h1
    · exact .inr (by omega)
  · refine ⟨hA5.os.trans (hA4.os.trans (HA2.out.os.trans a1.os)), hA5.tape.trans (hA4.tape.trans (HA2.out.tape.trans a1.tape)), hA5.output.trans (hA4.output.trans (HA2.out.output.trans a1.output)), by omega, fun b hb hno => ?_⟩
    have hbP : b ≠ P := fun e => hno.1 (.inl e)
    exact (hA5.block b (by omega) (by omega)).trans ((hA4.block b (by omega) hbP).trans ((HA2.out.block b (by omega) hno).trans (a1.block b hb hbP)))
  · have hls := HP2.out.r.ls
    rw [HLV.out] at hls
    refine hls.keep (fun b hb => ?_) (fun b hb => ?_)
    · rcases hb with hb | hb
      · have ho : m2.Own P b := .inr (.inr (.inl (by rw [HLV.out]; exact hb)))
        have hlt := HP2.out.r.own b ho
        exact (hA5.block b (by omega) (hw2 b ho)).trans (hA4.block b hlt (HP2.out.r.lX b (.inl (by rw [HLV.out]; exact hb))).2)
      · obtain ⟨q1, q2⟩ := HP2.out.r.rr b hb
        exact (hA5.block b (by omega) (hwR b hb)).trans (hA4.block b q1 (fun e => q2 (.inl e)))
    · rcases hb with hb | hb
      · have hb' : m2.lv.ownBlock = some b := by rw [HLV.out]; exact hb
        have ho : m2.Own P b := .inr (.inr (.inl hb'))
        refine ⟨by have := HP2.out.r.own b ho; omega, HP2.out.r.lvOnly hb', ?_⟩
        rcases HO2.out b ho with h1 | h1
        · exact .inl h1
        · exact .inr (by omega)
      · obtain ⟨q1, q2⟩ := HP2.out.r.rr b hb
        exact ⟨by omega, fun e => q2 (hO4 b e), .inr (by have := HR2.out b hb; omega)⟩
  · exact hG _ _ (hG _ _ HG2.out (hA4.mono (fun b _ hb => hb.1))) (hA5.mono (fun b _ hb e => by have := hb.2; omega))
end
end Go.Proofs.Ythfofnfkopnbhaa
namespace Go.Proofs.Ythfofnfkopnbhaa
open Go.RowKit Go.Maps Go.ChangeMaps
set_option linter.unusedVariables false
set_option linter.unusedSimpArgs false
set_option linter.unusedSectionVars false
set_option maxRecDepth 100000

theorem last_is (l : List En) : termAt l l.length = lastT En.term l := by
  unfold termAt lastT
  cases h : l.getLast? with
  | none =>
    have : l = [] := by simpa using h
    subst this; rfl
  | some e =>
    rw [List.getLast?_eq_getElem?] at h
    have hl := (List.getElem?_eq_some_iff.1 h).1
    rw [if_pos (by omega), show ((l.length : Int) - 1).toNat = l.length - 1 by omega, h]
    rfl
theorem setBlock_new (W : World) (o o' : Obj) : setBlock (W.alloc o) W.heap.size o' = W.alloc o' := by
  unfold setBlock World.alloc
  simp only
  congr 1
  apply Array.ext_getElem?
  intro i
  rw [Array.getElem?_setIfInBounds, Array.getElem?_push, Array.getElem?_push]
  by_cases h : W.heap.size = i
  · subst h
    simp
  · rw [if_neg h, if_neg (by omega), if_neg (by omega)]
theorem vt_new (W : World) (s : Int) (h : -9223372036854775808 ≤ s ∧ s ≤ 9223372036854775807) :
    (Instr.mapUpdate 51 (.map (some W.heap.size)) (.int .i64 s) (.bool true)).run Try.prog (W.alloc (.map #[] 0)) = .ok () (W.alloc (.map #[{ key := .int .i64 s, val := .bool true, born := 0 }] 1)) := by
  have h1 := run_upd_none (P := Try.prog) (w := W.alloc (.map #[] 0)) (Maps.int_keyed Try.underlying3) Try.underlying51 (es := []) (heap_alloc_new W _) (EsOk.nil _ _) (intKey s h) (fun e he => by cases he) (.bool true)
  rw [setBlock_new] at h1
  exact h1
section
variable {w w' : World} {P : Nat} {n id : Int} {m : Pm} {R : Nat → Prop} {c c' : Cs En}
/-- New votes. -/
theorem PeR.newVt (h : PeR w P n id m R c) (hP : P < w.heap.size) {s : Int} (hs : -9223372036854775808 ≤ s ∧ s ≤ 9223372036854775807) {r : Int} (h3 : r ≠ 3) :
    PeR (w.alloc (.map #[{ key := .int .i64 s, val := .bool true, born := 0 }] 1)) P n id { m with vv := .map (some w.heap.size) } R { c with p := { c.p with role := r, votes := [s] } } := by
  have hb : Below w.heap.size w (w.alloc (.map #[{ key := .int .i64 s, val := .bool true, born := 0 }] 1)) := (Below.refl _ _).alloc (Nat.le_refl _) _
  have hk : ∀ b, m.Oth b → (w.alloc (.map #[{ key := .int .i64 s, val := .bool true, born := 0 }] 1)).heap[b]? = w.heap[b]? := fun b hb' => hb.block b (h.own b (.inr (.inr hb')))
  have hz : (w.alloc (.map #[{ key := .int .i64 s, val := .bool true, born := 0 }] 1)).heap.size = w.heap.size + 1 := by simp
  have hsub : ∀ b, ({ m with vv := .map (some w.heap.size) } : Pm).Oth b → m.Oth b ∨ b = w.heap.size := by
    rintro b (e | e | e | e)
    · exact .inl (.inl e)
    · injection e with e; injection e with e; exact .inr e.symm
    · exact .inl (.inr (.inr (.inl e)))
    · exact .inl (.inr (.inr (.inr e)))
  have hes : EsOk Try.prog 3 [({ key := .int .i64 s, val := .bool true, born := 0 } : MapEntry)] 1 := (EsOk.nil Try.prog 3).push (intKey s hs) (fun e he => by cases he) (.bool true)
  refine ⟨h.log.below hb, h.row.keep (fun e => hk _ (.inl e)), h.dlen, fun i l d hi hd => (h.ents i l d hi hd).keep (fun b hb' => hb.block b (h.rr b hb').1) (fun _ h => h), .inr ⟨w.heap.size, _, 1, rfl, heap_alloc_new w _, hes, rfl⟩, (fun _ e => by cases e), h.of.keep (fun b e => hk b (.inr (.inr (.inl e)))), fun k b hb' => (hk b (.inr (.inr (.inr ⟨k, hb'⟩)))).trans (h.srv k b hb'), (fun e => absurd e h3), ?_, ?_, h.lP, ?_, ?_, h.mnd⟩
  · rintro b (e | e | e)
    · rw [hz]; omega
    · rw [hz]; have := h.own b (.inr (.inl e)); omega
    · rw [hz]
      rcases hsub b e with e | e
      · have := h.own b (.inr (.inr e)); omega
      · omega
  · intro b hb'
    obtain ⟨q1, q2⟩ := h.rr b hb'
    refine ⟨by rw [hz]; omega, ?_⟩
    rintro (e | e | e)
    · exact q2 (.inl e)
    · exact q2 (.inr (.inl e))
    · rcases hsub b e with e | e
      · exact q2 (.inr (.inr e))
      · omega
  · intro b hb'
    rcases hsub b hb' with e | e
    · exact h.lX b e
    · refine ⟨fun e' => ?_, by omega⟩
      have := h.own b (.inr (.inl e')); omega
  · intro b e e'
    injection e with e
    injection e with e
    subst e
    have := h.own _ (.inr (.inr (.inr (.inr (.inl e'))))); omega
/-- What a candidate asks with. -/
def askL (c : Cs En) : Lt En := { (lt0 1 : Lt En) with idx := (c.p.log.length : Int), was := lastT En.term c.p.log }
theorem stand1_any {pb ib tb : Nat} {s i t : Int} (h : PeA w P n id m R c) (ho : c.out.length ≤ 100000) (hpb : w.cell? ⟨pb, 0, none⟩ = some (.pointer (some ⟨P, 0, none⟩))) (hib : w.cell? ⟨ib, 0, none⟩ = some (.int .i64 i)) (htb : w.cell? ⟨tb, 0, none⟩ = some (.int .i64 t)) :
    Calls Try.prog 50 #[.int .i64 s, .pointer (some ⟨pb, 0, none⟩), .pointer (some ⟨ib, 0, none⟩), .pointer (some ⟨tb, 0, none⟩)] w fun e w' => e = .returned (.tuple #[]) ∧ Went P n id m R (sendP id c s { (lt0 1 : Lt En) with idx := i, was := t }) w w' := by
  have HS := send_any s { (lt0 1 : Lt En) with idx := i, was := t } none 0 (fun _ => False) h ⟨fun _ => rfl, Nat.le_refl _, by decide, fun h => absurd rfl h⟩ (fun _ h => h.elim) ho
  simp only [ltA, ltV, lt0, List.length_nil] at HS
  clear h
  go_enter Try.func50, Try.ntmps50
  go_wp2_with fail
  refine HS.mono ?_
  rintro _ w1 ⟨rfl, lv', g', ds', hP, hO, hA⟩
  go_wp2_with fail
  go_end0
  exact ⟨rfl, _, _, hP, hO, fun b hb => hb.elim .inl (fun h => h.elim), hA⟩
/-- A call's numbers and k letters. -/
structure AJ (p : Pr En) (frm : Int) (L k : Nat) (c : Cs En) : Prop where
  p : c.p = p
  frm : c.frm = frm
  out : c.out.length ≤ L + k
theorem asks_any {pb ib tb : Nat} {i t : Int} (h : PeA w P n id m R c) (ho : c.out.length ≤ 90000) (hpb : Bk w pb 46 [.pointer (some ⟨P, 0, none⟩)]) (hib : Bk w ib 3 [.int .i64 i]) (htb : Bk w tb 3 [.int .i64 t])
    (n1 : ¬ m.Own P pb) (n2 : ¬ m.Own P ib) (n3 : ¬ m.Own P tb) (hn : 0 ≤ n) (hn7 : n ≤ 7) :
    Calls Try.prog 32 #[.pointer (some ⟨P, 0, none⟩), .func (.func 50) #[] #[.pointer (some ⟨pb, 0, none⟩), .pointer (some ⟨ib, 0, none⟩), .pointer (some ⟨tb, 0, none⟩)]] w fun e w' => e = .returned (.tuple #[]) ∧
      Went P n id m R ((others n id).foldl (fun c s => sendP id c s { (lt0 1 : Lt En) with idx := i, was := t }) c) w w' ∧ AJ c.p c.frm c.out.length n.toNat ((others n id).foldl (fun c s => sendP id c s { (lt0 1 : Lt En) with idx := i, was := t }) c) := by
  refine others_step (AJ c.p c.frm c.out.length) (fun c s => sendP id c s { (lt0 1 : Lt En) with idx := i, was := t }) 50 _ _ (enters_of Try.func50 (by kernel_rfl) rfl) hn hn7 h ⟨rfl, rfl, Nat.le_refl _⟩ (fun k c h => ⟨h.p, h.frm, by have := h.out; omega⟩) ?_
  intro k s m1 R1 c1 w1 hk h1 h2 h3 hP hJ hO hA
  refine (stand1_any hP (by have := hJ.out; omega) ((hpb.ag hA n1).cell 0) ((hib.ag hA n2).cell 0) ((htb.ag hA n3).cell 0)).mono ?_
  rintro e w2 ⟨rfl, hw⟩
  refine ⟨rfl, hw, hJ.p, hJ.frm, ?_⟩
  have := hJ.out
  show (c1.out ++ [_]).length ≤ _
  simp
  omega
end
end Go.Proofs.Ythfofnfkopnbhaa
