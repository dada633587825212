/- raft, the walk: Propose. raft, the walk: Propose. -/
import Derived.Test.YthfofnfkopnbhaaW18
import Derived.Test.YthfofnfkopnbhaaW14
import Derived.Test.YthfofnfkopnbhaaZ11
namespace Go.Proofs.Ythfofnfkopnbhaa
open Go.RowKit Go.Maps Go.ChangeMaps
set_option linter.unusedVariables false
set_option linter.unusedSimpArgs false
set_option linter.unusedSectionVars false
set_option maxRecDepth 100000

section
variable {w w' : World} {P : Nat} {n id : Int} {m : Pm} {R : Nat → Prop} {c c' : Cs En}
set_option maxHeartbeats 2000000 in
theorem propose1_any {pb eb ib : Nat} (e : En) (A : Option Addr) (d : Nat) (K : Nat → Prop) (h : PeA w P n id m R c) (hk : Ok n id c) (ho : c.out.length ≤ 10000) (hr3 : c.p.role = 3) (hrd : Rd w K A d (u8s e.data)) (hKo : ∀ b, K b → b < w.heap.size ∧ ¬ m.Own P b) (hd : e.data.length ≤ 100000000)
    (hpb : Bk w pb 46 [.pointer (some ⟨P, 0, none⟩)]) (heb : Bk w eb 44 (enV e A d)) (hib : Bk w ib 3 [.int .i64 0]) (n1 : ¬ m.Own P pb) (n3 : ¬ m.Own P ib) (hR : ¬ R ib) (hpi : pb ≠ ib) :
    Calls Try.prog 27 #[.pointer (some ⟨pb, 0, none⟩), .pointer (some ⟨eb, 0, none⟩), .pointer (some ⟨ib, 0, none⟩)] w fun x w' => x = .returned (.tuple #[]) ∧ Bk w' ib 3 [.int .i64 (c.p.log.length + 1)] ∧
      ∃ m' R', PeA w' P n id m' R' (proposeP En.term n id { e with term := c.p.T } c) ∧ (∀ b, m'.Own P b → m.Own P b ∨ w.heap.size ≤ b) ∧ (∀ b, R' b → R b ∨ w.heap.size ≤ b) ∧ Ag (fun b => ¬ m.Own P b ∧ b ≠ ib) w w' := by
  have hC := put_peer e A d K h (hk.lm (by omega)) hrd hKo hd
  have hlen := hk.len
  have HK := Lib.hid hk
  have HH := Lib.hid h
  have HPB := Lib.hid hpb
  have HIB := Lib.hid hib
  have hpc : w.cell? ⟨pb, 0, none⟩ = some (.pointer (some ⟨P, 0, none⟩)) := hpb.cell 0
  have e0 : w.cell? ⟨eb, 0, none⟩ = some (.int .i64 e.term) := heb.cell 0
  have e1 : w.cell? ⟨eb, 1, none⟩ = some (.int .u8 e.kind) := heb.cell 1
  have e2 : w.cell? ⟨eb, 2, none⟩ = some (.int .i64 e.ver) := heb.cell 2
  have e3 : w.cell? ⟨eb, 3, none⟩ = some (.int .i64 e.srv) := heb.cell 3
  have e4 : w.cell? ⟨eb, 4, none⟩ = some (.bool e.good) := heb.cell 4
  have e5 : w.cell? ⟨eb, 5, none⟩ = some (.slice A e.data.length d) := heb.cell 5
  simp only [enA, enV] at hC
  clear h hk hpb heb hib hrd hKo
  go_enter Try.func27, Try.ntmps27
  go_wp2_with fail
  (with_reducible refine hC.mono ?_)
  rintro _ w1 ⟨rfl, hw⟩
  clear hC
  obtain ⟨m1, R1, hp1, ho1, hR1, ha1⟩ := hw
  have hib1 := HIB.out.ag ha1 n3
  have hpb1 := HPB.out.ag ha1 n1
  have hni : ¬ m1.Own P ib := fun q => (ho1 ib q).elim n3 (fun q => by have := HIB.out.lt; omega)
  have hnR : ¬ R1 ib := fun q => (hR1 ib q).elim hR (fun q => by have := HIB.out.lt; omega)
  have ic := hib1.cell 0
  have ifr := hib1.frozen 0
  have hpi' : ib ≠ pb := fun e => hpi e.symm
  have hpc1 : w1.cell? ⟨pb, 0, none⟩ = some (.pointer (some ⟨P, 0, none⟩)) := hpb1.cell 0
  have hA2 : Ag (fun b => b ≠ ib) w1 (w1.setCell ⟨ib, 0, none⟩ (.int .i64 (c.p.log.length + 1))) := (Ag.refl _ w1).setCell (p := ⟨ib, 0, none⟩) (fun _ hK => hK rfl) _
  have hp2 := hp1.ag (hA2.mono (fun b _ hb => hb.elim (fun q => fun e => hni (e ▸ q)) (fun q => fun e => hnR (e ▸ q))))
  have hi2 := hib1.set 0 (.int .i64 (c.p.log.length + 1))
  have hpb2 := hpb1.far (p := ⟨ib, 0, none⟩) hpi (.int .i64 (c.p.log.length + 1))
  have hpc2 : (w1.setCell ⟨ib, 0, none⟩ (.int .i64 (c.p.log.length + 1))).cell? ⟨pb, 0, none⟩ = some (.pointer (some ⟨P, 0, none⟩)) := hpb2.cell 0
  have HP2 := Lib.hid hp2
  have HI2 := Lib.hid hi2
  have HA2 := Lib.hid hA2
  have HO1 := Lib.hid ho1
  have HR1 := Lib.hid hR1
  have HA1 := Lib.hid ha1
  have HS : Hid ((w1.setCell ⟨ib, 0, none⟩ (.int .i64 (c.p.log.length + 1))).heap.size = w1.heap.size) := Lib.hid (by simp [World.setCell])
  clear hp1 hp2 hi2 hA2 hpb2 ho1 hR1 ha1 hib1 hpb1 hpc e0 e1 e2 e3 e4 e5
  go_wp2_with fail
  generalize (w1.setCell ⟨ib, 0, none⟩ (.int .i64 (c.p.log.length + 1))) = w2 at *
  have hq := put_q (c := c) { e with term := c.p.T }
  refine (settle_any HP2.out ⟨by rw [hq.1]; simp; omega, fun x hx => ?_, by rw [hq.2.1]; omega⟩ (hq.2.2.1.trans hr3) HK.out.i1 HK.out.i2 HK.out.n7).mono ?_
  · rw [hq.1] at hx
    rcases List.mem_append.mp hx with hx | hx
    · exact HK.out.dat x hx
    · rw [List.mem_singleton.mp hx]; exact hd
  rintro _ w3 ⟨rfl, hP3, hA3⟩
  have HP3 := Lib.hid hP3
  have HA3 := Lib.hid hA3
  clear hP3 hA3
  go_wp2_with fail
  go_end0
  have hPib : ib ≠ P := fun q => n3 (.inl q)
  refine ⟨rfl, HI2.out.ag HA3.out hPib, m1, R1, HP3.out, HO1.out, HR1.out, ?_⟩
  have s1 := HA1.out.size
  have s2 := HA2.out.size
  exact (HA1.out.mono (fun b _ hb => hb.1)).trans ((HA2.out.mono (fun b _ hb => hb.2)).trans (HA3.out.mono (fun b _ hb => fun q => hb.1 (.inl q))))
end
end Go.Proofs.Ythfofnfkopnbhaa
namespace Go.Proofs.Ythfofnfkopnbhaa
open Go.RowKit Go.Maps Go.ChangeMaps
set_option linter.unusedVariables false
set_option linter.unusedSimpArgs false
set_option linter.unusedSectionVars false
set_option maxRecDepth 100000

/-- What Propose's call begins with: its four blocks. -/
def pw (w : World) (v : Value) (e : En) (A : Option Addr) (d : Nat) : World :=
  (((w.alloc (.cells #[v] 46)).alloc (.cells (enV e A d).toArray 44)).alloc (.cells #[.int .i64 0] 3)).alloc (.cells #[.int .i64 0, .int .i64 0, .int .i64 0, .int .i64 0, .slice none 0 0] 48)
theorem pw_facts (w : World) (v : Value) (e : En) (A : Option Addr) (d : Nat) : (pw w v e A d).heap.size = w.heap.size + 4 ∧ Below w.heap.size w (pw w v e A d) ∧ Bk (pw w v e A d) w.heap.size 46 [v] ∧ Bk (pw w v e A d) (w.heap.size + 1) 44 (enV e A d) ∧ Bk (pw w v e A d) (w.heap.size + 1 + 1) 3 [.int .i64 0] ∧ Bk (pw w v e A d) (w.heap.size + 1 + 1 + 1) 48 [.int .i64 0, .int .i64 0, .int .i64 0, .int .i64 0, .slice none 0 0] := by
  unfold pw
  refine ⟨by simp, ((((Below.refl _ _).alloc (Nat.le_refl _) _).alloc (by simp) _).alloc (by simp; omega) _).alloc (by simp; omega) _, (((Bk.new w _ _).alloc _).alloc _).alloc _, ?_, ?_, ?_⟩
  · have := Bk.new (w.alloc (.cells #[v] 46)) 44 (enV e A d)
    rw [World.size_alloc] at this
    exact (this.alloc _).alloc _
  · have := Bk.new ((w.alloc (.cells #[v] 46)).alloc (.cells (enV e A d).toArray 44)) 3 [.int .i64 0]
    rw [World.size_alloc, World.size_alloc] at this
    exact this.alloc _
  · have := Bk.new (((w.alloc (.cells #[v] 46)).alloc (.cells (enV e A d).toArray 44)).alloc (.cells #[.int .i64 0] 3)) 48 [.int .i64 0, .int .i64 0, .int .i64 0, .int .i64 0, .slice none 0 0]
    rw [World.size_alloc, World.size_alloc, World.size_alloc] at this
    exact this
theorem p_fin {w4 : World} {ib : Nat} {u0 y0 y1 y2 y3 y4 : Value} (hi : Bk w4 ib 3 [u0]) (ho : Bk w4 (ib + 1) 48 [y0, y1, y2, y3, y4]) (iv z0 z1 z2 z3 z4 : Value) :
    let w5 := ((((((w4.setCell ⟨ib, 0, none⟩ iv).setCell ⟨ib + 1, 0, none⟩ z0).setCell ⟨ib + 1, 1, none⟩ z1).setCell ⟨ib + 1, 2, none⟩ z2).setCell ⟨ib + 1, 3, none⟩ z3).setCell ⟨ib + 1, 4, none⟩ z4)
    Bk w5 ib 3 [iv] ∧ Bk w5 (ib + 1) 48 [z0, z1, z2, z3, z4] ∧ Ag (fun b => b ≠ ib ∧ b ≠ ib + 1) w4 w5 := by
  intro w5
  have h1 : Ag (fun b => b ≠ ib) w4 (w4.setCell ⟨ib, 0, none⟩ iv) := (Ag.refl _ w4).setCell (p := ⟨ib, 0, none⟩) (fun _ hK => hK rfl) _
  have h2 : Ag (fun b => b ≠ ib + 1) (w4.setCell ⟨ib, 0, none⟩ iv) w5 := ag5 _ _ z0 z1 z2 z3 z4
  refine ⟨(hi.set 0 iv).ag h2 (by omega), bk5 (ho.far (p := ⟨ib, 0, none⟩) (by show ib + 1 ≠ ib; omega) iv) z0 z1 z2 z3 z4, (h1.mono (fun b _ hb => hb.1)).trans (h2.mono (fun b _ hb => hb.2))⟩
set_option maxHeartbeats 2000000 in
theorem propose_no (e : En) (A : Option Addr) (d : Nat) (w : World) (v : Value) (h : NoP w v) :
    Calls Try.prog 11 #[v, enA e A d] w fun x w' => x = .returned (.tuple #[.int .i64 0, out0, .int .i64 1]) ∧ Below w.heap.size w w' := by
  obtain ⟨a, rfl⟩ : ∃ a, v = .pointer a := by
    rcases h with rfl | ⟨g, rfl, _⟩
    · exact ⟨_, rfl⟩
    · exact ⟨_, rfl⟩
  obtain ⟨w4, hw4⟩ : ∃ w4, w4 = pw w (.pointer a) e A d := ⟨_, rfl⟩
  obtain ⟨q1, q2, q3, q4, q5, q6⟩ := pw_facts w (.pointer a) e A d
  rw [← hw4] at q1 q2 q3 q4 q5 q6
  have hn : NoP w4 (.pointer a) := by
    rcases h with h | ⟨g, h1, h2⟩
    · exact .inl h
    · exact .inr ⟨g, h1, (World.cell?_of_block (q2.block g (World.block_lt_of_cell? w _ h2))).trans h2⟩
  have hT := there_false w4 (.pointer a) hn
  have p0 : w4.cell? ⟨w.heap.size, 0, none⟩ = some (.pointer a) := q3.cell 0
  have i0 : w4.cell? ⟨w.heap.size + 1 + 1, 0, none⟩ = some (.int .i64 0) := q5.cell 0
  obtain ⟨o0, o1, o2, o3, o4⟩ := cells5 q6
  have ifr := q5.frozen 0
  have ofr := q6.frozen
  have HB := Lib.hid q2
  have Q5 := Lib.hid q5
  have Q6 := Lib.hid q6
  clear h hn q2 q3 q4 q5 q6
  simp only [pw, enV] at hw4
  go_enter Try.func11, Try.ntmps11
  unfold enA
  simp only [enV] at hw4 ⊢
  go_wp2_with fail
  rw [← hw4]
  clear hw4
  refine hT.mono ?_
  rintro _ w5 ⟨rfl, rfl⟩
  clear hT
  go_wp2_with fail
  have hF := p_fin Q5.out Q6.out (.int .i64 0) (.int .i64 0) (.int .i64 0) (.int .i64 0) (.int .i64 0) (.slice none 0 0)
  simp only at hF
  obtain ⟨f1, f2, f3⟩ := hF
  generalize ((((((w4.setCell ⟨w.heap.size + 1 + 1, 0, none⟩ (.int .i64 0)).setCell ⟨w.heap.size + 1 + 1 + 1, 0, none⟩ (.int .i64 0)).setCell ⟨w.heap.size + 1 + 1 + 1, 1, none⟩ (.int .i64 0)).setCell ⟨w.heap.size + 1 + 1 + 1, 2, none⟩ (.int .i64 0)).setCell ⟨w.heap.size + 1 + 1 + 1, 3, none⟩ (.int .i64 0)).setCell ⟨w.heap.size + 1 + 1 + 1, 4, none⟩ (.slice none 0 0)) = w9 at *
  have hbe : Below w.heap.size w w9 := HB.out.trans ⟨f3.os, f3.tape, f3.output, f3.size, fun b hb => f3.block b (Nat.lt_of_lt_of_le hb HB.out.size) ⟨by omega, by omega⟩⟩
  have g0 : w9.cell? ⟨w.heap.size + 1 + 1, 0, none⟩ = some (.int .i64 0) := f1.cell 0
  obtain ⟨k0, k1, k2, k3, k4⟩ := cells5 f2
  exact bodyPost_ret (v := .tuple #[.int .i64 0, out0, .int .i64 1]) (by simp [results, Try.results11, go_sem, out0, g0, k0, k1, k2, k3, k4]) rfl ⟨rfl, hbe⟩
theorem Told.out2 {P : Nat} {n id : Int} {m : Pm} {c' : Cs En} {w w3 w4 w5 : World} {x : Nat} {e : Ending} (h : Told P n id m x c' w3 e w4) (hb : Below w.heap.size w w3) (hown : ∀ b, m.Own P b → b < w.heap.size) {r1 r2 : Nat} (h1 : w.heap.size ≤ r1) (h2 : r1 < w3.heap.size) (h3 : w.heap.size ≤ r2) (h4 : r2 < w3.heap.size) (hx : w.heap.size ≤ x) (ha : Ag (fun b => b ≠ r1 ∧ b ≠ r2) w4 w5) : Told P n id m P c' w e w5 := by
  obtain ⟨lv, m', h3', h4', h5, h6, h7⟩ := h
  have hs := hb.size
  have hs6 := h6.size
  have hr : ∀ b, m'.Own P b → b ≠ r1 ∧ b ≠ r2 := fun b hb' => by
    rcases h5 b hb' with h8 | h8
    · have := hown b h8; omega
    · omega
  refine ⟨lv, m', h3', h4'.ag (ha.mono (fun b _ hb' => hb'.elim (hr b) (fun h => h.elim))), fun b hb' => (h5 b hb').imp (fun x => x) (fun h => by omega), ⟨ha.os.trans (h6.os.trans hb.os), ha.tape.trans (h6.tape.trans hb.tape), ha.output.trans (h6.output.trans hb.output), by have := ha.size; omega, fun b hb' hno => ?_⟩, h7.keep (fun b hb' => ha.block b hb'.1 ?_) (fun b hb' => ⟨by have := ha.size; have := hb'.1; omega, hb'.2.1, hb'.2.2.imp (fun x => x) (fun h => by omega)⟩)⟩
  · exact (ha.block b (by omega) (by omega)).trans ((h6.block b (by omega) ⟨hno.1, by omega⟩).trans (hb.block b hb'))
  · rcases hb'.2.2 with h8 | h8
    · have := hown b h8; omega
    · omega
/-- What Propose answers. -/
def propErr (c : Cs En) (e : En) : Int := if c.p.role ≠ 3 then 12 else if e.kind < 2 ∨ 6 < e.kind then 2 else if 32 ≤ (c.p.log.length : Int) - c.p.C then 5 else 0
section
variable {w w' : World} {P : Nat} {n id : Int} {m : Pm} {R : Nat → Prop} {c c' : Cs En}
set_option maxHeartbeats 4000000 in
theorem propose_any (e : En) (A : Option Addr) (d : Nat) (K : Nat → Prop) (h : PeA w P n id m R c) (hk : Ok n id ⟨c.p, 0, []⟩) (hC0 : 0 ≤ c.p.C) (hC1 : c.p.C ≤ c.p.log.length) (hrd : Rd w K A d (u8s e.data)) (hKo : ∀ b, K b → b < w.heap.size ∧ ¬ m.Own P b) (hd : e.data.length ≤ 100000000) :
    Calls Try.prog 11 #[.pointer (some ⟨P, 0, none⟩), enA e A d] w fun x w' =>
      (propErr c e ≠ 0 ∧ x = .returned (.tuple #[.int .i64 0, out0, .int .i64 (propErr c e)]) ∧ Below w.heap.size w w') ∨
      (propErr c e = 0 ∧ ∃ lv, x = .returned (.tuple #[.int .i64 (c.p.log.length + 1), outV (proposeP En.term n id { e with term := c.p.T } ⟨c.p, 0, []⟩) lv, .int .i64 0]) ∧ Told P n id m P (proposeP En.term n id { e with term := c.p.T } ⟨c.p, 0, []⟩) w (.returned (outV (proposeP En.term n id { e with term := c.p.T } ⟨c.p, 0, []⟩) lv)) w') := by
  have hmf : ∀ (fn : Fn) (first cap : Array Value) (w : World), (Instr.makeFunc fn first cap).run Try.prog w = .ok (.func fn first cap) w := fun _ _ _ _ => rfl
  obtain ⟨cT, hcT⟩ : ∃ cT, proposeP En.term n id { e with term := c.p.T } ⟨c.p, 0, []⟩ = cT := ⟨_, rfl⟩
  rw [hcT]
  have HCT := Lib.hid hcT
  clear hcT
  obtain ⟨w4, hw4⟩ : ∃ w4, w4 = pw w (.pointer (some ⟨P, 0, none⟩)) e A d := ⟨_, rfl⟩
  obtain ⟨q1, q2, q3, q4, q5, q6⟩ := pw_facts w (.pointer (some ⟨P, 0, none⟩)) e A d
  rw [← hw4] at q1 q2 q3 q4 q5 q6
  have h4 := h.below q2
  have hlen := hk.len
  have hid : 0 < id := by have := hk.i1; omega
  have hPlt := h.plt
  obtain ⟨c0, c1, c2, c3, c4, c5, c6, c7, c8, c9, c10, c11, c12, c13⟩ := h4.cells
  have hT := there_true w4 P id c5 hid
  have hL := last_peer h4
  have hown : ∀ b, m.Own P b → b < w.heap.size := h.r.own
  have p0 : w4.cell? ⟨w.heap.size, 0, none⟩ = some (.pointer (some ⟨P, 0, none⟩)) := q3.cell 0
  have i0 : w4.cell? ⟨w.heap.size + 1 + 1, 0, none⟩ = some (.int .i64 0) := q5.cell 0
  have k1 : w4.cell? ⟨w.heap.size + 1, 1, none⟩ = some (.int .u8 e.kind) := q4.cell 1
  obtain ⟨o0, o1, o2, o3, o4⟩ := cells5 q6
  have ifr := q5.frozen 0
  have ofr := q6.frozen
  have HB := Lib.hid q2
  have HBP := Lib.hid q3
  have HBE := Lib.hid q4
  have Q5 := Lib.hid q5
  have Q6 := Lib.hid q6
  have H4 := Lib.hid h4
  have HRD := Lib.hid (hrd.keep (fun b hb => q2.block b (hKo b hb).1) (fun _ h => h))
  have HPlt := Lib.hid hPlt
  clear h h4 q2 q3 q4 q5 q6 hrd hPlt
  simp only [pw, enV] at hw4
  go_enter Try.func11, Try.ntmps11
  unfold enA
  simp only [enV] at hw4 ⊢
  go_wp2_with fail
  rw [← hw4]
  clear hw4
  refine hT.mono ?_
  rintro _ w5 ⟨rfl, rfl⟩
  clear hT
  go_wp2_with fail
  refine hL.mono ?_
  rintro _ w5 ⟨rfl, hb5⟩
  clear hL
  have HB5 := Lib.hid (HB.out.trans (hb5.mono HB.out.size))
  have H5 := Lib.hid (H4.out.below hb5)
  have hq4 := H4.out.plt
  have P5 := Lib.hid (HBP.out.below hb5 HBP.out.lt)
  have E5 := Lib.hid (HBE.out.below hb5 HBE.out.lt)
  have I5 := Lib.hid (Q5.out.below hb5 Q5.out.lt)
  have O5 := Lib.hid (Q6.out.below hb5 Q6.out.lt)
  have RD5 := Lib.hid (HRD.out.keep (fun b hb => hb5.block b (by have := (hKo b hb).1; omega)) (fun _ h => h))
  have hs5 := hb5.size
  rw [q1] at hs5
  clear c0 c1 c2 c3 c4 c5 c6 c7 c8 c9 c10 c11 c12 c13 p0 i0 k1 o0 o1 o2 o3 o4 ifr ofr hb5 HB HBP HBE Q5 Q6 H4 HRD q1 hq4
  obtain ⟨c0, c1, c2, c3, c4, c5, c6, c7, c8, c9, c10, c11, c12, c13⟩ := H5.out.cells
  have p0 : w5.cell? ⟨w.heap.size, 0, none⟩ = some (.pointer (some ⟨P, 0, none⟩)) := P5.out.cell 0
  have i0 : w5.cell? ⟨w.heap.size + 1 + 1, 0, none⟩ = some (.int .i64 0) := I5.out.cell 0
  have k1 : w5.cell? ⟨w.heap.size + 1, 1, none⟩ = some (.int .u8 e.kind) := E5.out.cell 1
  obtain ⟨o0, o1, o2, o3, o4⟩ := cells5 O5.out
  have ifr := I5.out.frozen 0
  have ofr := O5.out.frozen
  by_cases hr : c.p.role = 3
  · have hrb : (c.p.role == 3) = true := by simp [hr]
    have HR := Lib.hid hr
    clear hr
    by_cases hk2 : e.kind < 2
    · have d2 : decide (e.kind < 2) = true := decide_eq_true hk2
      have HPE : Hid (propErr c e = 2) := Lib.hid (by unfold propErr; rw [if_neg (fun h => h HR.out), if_pos (.inl hk2)])
      clear hk2
      go_wp2_with fail
      have hF := p_fin I5.out O5.out (.int .i64 0) (.int .i64 0) (.int .i64 0) (.int .i64 0) (.int .i64 0) (.slice none 0 0)
      simp only at hF
      obtain ⟨f1, f2, f3⟩ := hF
      generalize ((((((w5.setCell ⟨w.heap.size + 1 + 1, 0, none⟩ (.int .i64 0)).setCell ⟨w.heap.size + 1 + 1 + 1, 0, none⟩ (.int .i64 0)).setCell ⟨w.heap.size + 1 + 1 + 1, 1, none⟩ (.int .i64 0)).setCell ⟨w.heap.size + 1 + 1 + 1, 2, none⟩ (.int .i64 0)).setCell ⟨w.heap.size + 1 + 1 + 1, 3, none⟩ (.int .i64 0)).setCell ⟨w.heap.size + 1 + 1 + 1, 4, none⟩ (.slice none 0 0)) = w9 at *
      have hbe : Below w.heap.size w w9 := HB5.out.trans ⟨f3.os, f3.tape, f3.output, f3.size, fun b hb => f3.block b (Nat.lt_of_lt_of_le hb HB5.out.size) ⟨by omega, by omega⟩⟩
      have g0 : w9.cell? ⟨w.heap.size + 1 + 1, 0, none⟩ = some (.int .i64 0) := f1.cell 0
      obtain ⟨k0, k1, k2, k3, k4⟩ := cells5 f2
      exact bodyPost_ret (v := .tuple #[.int .i64 0, out0, .int .i64 2]) (by simp [results, Try.results11, go_sem, out0, g0, k0, k1, k2, k3, k4]) rfl (.inl ⟨by rw [HPE.out]; decide, by rw [HPE.out], hbe⟩)
    · have d2 : decide (e.kind < 2) = false := decide_eq_false hk2
      by_cases hk6 : 6 < e.kind
      · have d6 : decide (6 < e.kind) = true := decide_eq_true hk6
        have HPE : Hid (propErr c e = 2) := Lib.hid (by unfold propErr; rw [if_neg (fun h => h HR.out), if_pos (.inr hk6)])
        clear hk2 hk6
        go_wp2_with fail
        have hF := p_fin I5.out O5.out (.int .i64 0) (.int .i64 0) (.int .i64 0) (.int .i64 0) (.int .i64 0) (.slice none 0 0)
        simp only at hF
        obtain ⟨f1, f2, f3⟩ := hF
        generalize ((((((w5.setCell ⟨w.heap.size + 1 + 1, 0, none⟩ (.int .i64 0)).setCell ⟨w.heap.size + 1 + 1 + 1, 0, none⟩ (.int .i64 0)).setCell ⟨w.heap.size + 1 + 1 + 1, 1, none⟩ (.int .i64 0)).setCell ⟨w.heap.size + 1 + 1 + 1, 2, none⟩ (.int .i64 0)).setCell ⟨w.heap.size + 1 + 1 + 1, 3, none⟩ (.int .i64 0)).setCell ⟨w.heap.size + 1 + 1 + 1, 4, none⟩ (.slice none 0 0)) = w9 at *
        have hbe : Below w.heap.size w w9 := HB5.out.trans ⟨f3.os, f3.tape, f3.output, f3.size, fun b hb => f3.block b (Nat.lt_of_lt_of_le hb HB5.out.size) ⟨by omega, by omega⟩⟩
        have g0 : w9.cell? ⟨w.heap.size + 1 + 1, 0, none⟩ = some (.int .i64 0) := f1.cell 0
        obtain ⟨k0, k1, k2, k3, k4⟩ := cells5 f2
        exact bodyPost_ret (v := .tuple #[.int .i64 0, out0, .int .i64 2]) (by simp [results, Try.results11, go_sem, out0, g0, k0, k1, k2, k3, k4]) rfl (.inl ⟨by rw [HPE.out]; decide, by rw [HPE.out], hbe⟩)
      · have d6 : decide (6 < e.kind) = false := decide_eq_false hk6
        have HKK : Hid (¬ (e.kind < 2 ∨ 6 < e.kind)) := Lib.hid (fun h => h.elim hk2 hk6)
        clear hk2 hk6
        by_cases hf : 32 ≤ (c.p.log.length : Int) - c.p.C
        · have df : decide (32 ≤ (c.p.log.length : Int) - c.p.C) = true := decide_eq_true hf
          have HPE : Hid (propErr c e = 5) := Lib.hid (by unfold propErr; rw [if_neg (fun h => h HR.out), if_neg HKK.out, if_pos hf])
          clear hf
          go_wp2_with fail
          have hF := p_fin I5.out O5.out (.int .i64 0) (.int .i64 0) (.int .i64 0) (.int .i64 0) (.int .i64 0) (.slice none 0 0)
          simp only at hF
          obtain ⟨f1, f2, f3⟩ := hF
          generalize ((((((w5.setCell ⟨w.heap.size + 1 + 1, 0, none⟩ (.int .i64 0)).setCell ⟨w.heap.size + 1 + 1 + 1, 0, none⟩ (.int .i64 0)).setCell ⟨w.heap.size + 1 + 1 + 1, 1, none⟩ (.int .i64 0)).setCell ⟨w.heap.size + 1 + 1 + 1, 2, none⟩ (.int .i64 0)).setCell ⟨w.heap.size + 1 + 1 + 1, 3, none⟩ (.int .i64 0)).setCell ⟨w.heap.size + 1 + 1 + 1, 4, none⟩ (.slice none 0 0)) = w9 at *
          have hbe : Below w.heap.size w w9 := HB5.out.trans ⟨f3.os, f3.tape, f3.output, f3.size, fun b hb => f3.block b (Nat.lt_of_lt_of_le hb HB5.out.size) ⟨by omega, by omega⟩⟩
          have g0 : w9.cell? ⟨w.heap.size + 1 + 1, 0, none⟩ = some (.int .i64 0) := f1.cell 0
          obtain ⟨k0, k1, k2, k3, k4⟩ := cells5 f2
          exact bodyPost_ret (v := .tuple #[.int .i64 0, out0, .int .i64 5]) (by simp [results, Try.results11, go_sem, out0, g0, k0, k1, k2, k3, k4]) rfl (.inl ⟨by rw [HPE.out]; decide, by rw [HPE.out], hbe⟩)
        · have df : decide (32 ≤ (c.p.log.length : Int) - c.p.C) = false := decide_eq_false hf
          have HPE : Hid (propErr c e = 0) := Lib.hid (by unfold propErr; rw [if_neg (fun h => h HR.out), if_neg HKK.out, if_neg hf])
          clear hf
          go_wp2_with fail
          have hkK : ∀ b, K b → b < w5.heap.size ∧ ¬ m.Own P b := fun b hb => ⟨by have := (hKo b hb).1; omega, (hKo b hb).2⟩
          refine (call_any 27 _ (w.heap.size + 1 + 1) (fun w' => Bk w' (w.heap.size + 1 + 1) 3 [.int .i64 (c.p.log.length + 1)]) (fun w1 w2 hg ha => hg.ag ha ⟨by have := HPlt.out; omega, by omega⟩) (enters_of Try.func27 (by kernel_rfl) rfl) H5.out hid (by omega) (c' := cT) ?_).mono ?_
          · intro w1 hP1 hA1
            have hsub : ∀ b, ({ m with lv := .slice none 0 0, ds := [] } : Pm).Own P b → m.Own P b := by
              rintro b (e | e | e | e)
              · exact .inl e
              · exact .inr (.inl e)
              · cases e
              · exact .inr (.inr (.inr e))
            have hs1 := hA1.size
            have hPn := HPlt.out
            refine (propose1_any e A d K hP1 hk (Nat.zero_le _) HR.out (RD5.out.keep (fun b hb => hA1.block b (hkK b hb).1 (fun e => (hkK b hb).2 (.inl e))) (fun _ h => h)) (fun b hb => ⟨by have := (hkK b hb).1; omega, fun e => (hkK b hb).2 (hsub b e)⟩) hd
              (P5.out.ag hA1 (by omega)) (E5.out.ag hA1 (by omega)) (I5.out.ag hA1 (by omega)) (fun e => by have := hown _ (hsub _ e); omega) (fun e => by have := hown _ (hsub _ e); omega) (fun e => e) (by omega)).mono ?_
            rintro x w2 ⟨rfl, hi2, m2, R2, h1, h2, h3, h4⟩
            rw [HCT.out] at h1
            exact ⟨rfl, hi2, m2, R2, h1, fun b hb' => (h2 b hb').imp (hsub b) (fun x => x), fun b hb' => (h3 b hb').elim (fun h => h.elim) (fun x => x), h4.mono (fun b _ hb' => ⟨fun e => hb'.1 (hsub b e), hb'.2⟩)⟩
          rintro x w6 ⟨hT, hI6⟩
          have HT := Lib.hid hT
          obtain ⟨lv, m', rfl, t4, t5, t6, t7⟩ := hT
          obtain ⟨A', cap, rfl⟩ := t7.form
          have hrb : ¬ m.Own P (w.heap.size + 1 + 1 + 1) := fun e => by have := hown _ e; omega
          have hO6 := O5.out.ag t6 ⟨hrb, by omega⟩
          obtain ⟨y0, y1, y2, y3, y4⟩ := cells5 hO6
          have yf := hO6.frozen
          have x0 : w6.cell? ⟨w.heap.size + 1 + 1, 0, none⟩ = some (.int .i64 (c.p.log.length + 1)) := hI6.cell 0
          have xf := hI6.frozen 0
          have HI6 := Lib.hid hI6
          have HO6 := Lib.hid hO6
          clear t4 t5 t6 t7 hrb hI6 hO6 p0 i0 k1 o0 o1 o2 o3 o4 ifr ofr c0 c1 c2 c3 c4 c5 c6 c7 c8 c9 c10 c11 c12 c13
          unfold outV
          go_wp2_with fail
          have hO7 := bk5 HO6.out (.int .i64 cT.p.T) (.int .i64 cT.p.V) (.int .i64 cT.frm) (.int .i64 cT.p.C) (.slice A' cT.out.length cap)
          have hA7 := ag5 w6 (w.heap.size + 1 + 1 + 1) (.int .i64 cT.p.T) (.int .i64 cT.p.V) (.int .i64 cT.frm) (.int .i64 cT.p.C) (.slice A' cT.out.length cap)
          have hI7 := HI6.out.ag hA7 (by omega)
          generalize (((((w6.setCell ⟨w.heap.size + 1 + 1 + 1, 0, none⟩ (.int .i64 cT.p.T)).setCell ⟨w.heap.size + 1 + 1 + 1, 1, none⟩ (.int .i64 cT.p.V)).setCell ⟨w.heap.size + 1 + 1 + 1, 2, none⟩ (.int .i64 cT.frm)).setCell ⟨w.heap.size + 1 + 1 + 1, 3, none⟩ (.int .i64 cT.p.C)).setCell ⟨w.heap.size + 1 + 1 + 1, 4, none⟩ (.slice A' cT.out.length cap)) = w7 at *
          clear y0 y1 y2 y3 y4 yf x0 xf
          obtain ⟨y0, y1, y2, y3, y4⟩ := cells5 hO7
          have yf := hO7.frozen
          have x0 : w7.cell? ⟨w.heap.size + 1 + 1, 0, none⟩ = some (.int .i64 (c.p.log.length + 1)) := hI7.cell 0
          have xf := hI7.frozen 0
          have O7 := Lib.hid hO7
          have I7 := Lib.hid hI7
          have A7 := Lib.hid hA7
          clear hO7 hI7 hA7
          go_region
          have hF := p_fin I7.out O7.out (.int .i64 (c.p.log.length + 1)) (.int .i64 cT.p.T) (.int .i64 cT.p.V) (.int .i64 cT.frm) (.int .i64 cT.p.C) (.slice A' cT.out.length cap)
          simp only at hF
          obtain ⟨f1, f2, f3⟩ := hF
          generalize ((((((w7.setCell ⟨w.heap.size + 1 + 1, 0, none⟩ (.int .i64 (c.p.log.length + 1))).setCell ⟨w.heap.size + 1 + 1 + 1, 0, none⟩ (.int .i64 cT.p.T)).setCell ⟨w.heap.size + 1 + 1 + 1, 1, none⟩ (.int .i64 cT.p.V)).setCell ⟨w.heap.size + 1 + 1 + 1, 2, none⟩ (.int .i64 cT.frm)).setCell ⟨w.heap.size + 1 + 1 + 1, 3, none⟩ (.int .i64 cT.p.C)).setCell ⟨w.heap.size + 1 + 1 + 1, 4, none⟩ (.slice A' cT.out.length cap)) = w9 at *
          have F1 := Lib.hid (f1.ag (K := fun _ => True) (w' := w9.drew) ⟨rfl, rfl, rfl, Nat.le_refl _, fun _ _ _ => rfl⟩ trivial)
          have F2 := Lib.hid (f2.ag (K := fun _ => True) (w' := w9.drew) ⟨rfl, rfl, rfl, Nat.le_refl _, fun _ _ _ => rfl⟩ trivial)
          have F3 := Lib.hid ((A7.out.mono (fun b _ (hb : b ≠ w.heap.size + 1 + 1 ∧ b ≠ w.heap.size + 1 + 1 + 1) => hb.2)).trans f3)
          clear y0 y1 y2 y3 y4 yf x0 xf f1 f2 f3
          have hT9 := HT.out.out2 HB5.out hown (r1 := w.heap.size + 1 + 1) (r2 := w.heap.size + 1 + 1 + 1) (by omega) (by omega) (by omega) (by omega) (by omega) (F3.out.trans (⟨rfl, rfl, rfl, Nat.le_refl _, fun _ _ _ => rfl⟩ : Ag _ w9 w9.drew))
          have HT9 := Lib.hid hT9
          clear hT9
          go_wp2_with fail
          have g0 : w9.drew.cell? ⟨w.heap.size + 1 + 1, 0, none⟩ = some (.int .i64 (c.p.log.length + 1)) := F1.out.cell 0
          obtain ⟨k0, k1, k2, k3, k4⟩ := cells5 F2.out
          exact bodyPost_ret (v := .tuple #[.int .i64 (c.p.log.length + 1), outV cT (.slice A' cT.out.length cap), .int .i64 0]) (by simp only [World.cell?_drew] at *; simp [results, Try.results11, go_sem, outV, g0, k0, k1, k2, k3, k4]) rfl (.inr ⟨HPE.out, _, rfl, HT9.out⟩)
  · have hrb : (c.p.role == 3) = false := by simp [hr]
    have HPE : Hid (propErr c e = 12) := Lib.hid (by unfold propErr; rw [if_pos hr])
    clear hr
    go_wp2_with fail
    have hF := p_fin I5.out O5.out (.int .i64 0) (.int .i64 0) (.int .i64 0) (.int .i64 0) (.int .i64 0) (.slice none 0 0)
    simp only at hF
    obtain ⟨f1, f2, f3⟩ := hF
    generalize ((((((w5.setCell ⟨w.heap.size + 1 + 1, 0, none⟩ (.int .i64 0)).setCell ⟨w.heap.size + 1 + 1 + 1, 0, none⟩ (.int .i64 0)).setCell ⟨w.heap.size + 1 + 1 + 1, 1, none⟩ (.int .i64 0)).setCell ⟨w.heap.size + 1 + 1 + 1, 2, none⟩ (.int .i64 0)).setCell ⟨w.heap.size + 1 + 1 + 1, 3, none⟩ (.int .i64 0)).setCell ⟨w.heap.size + 1 + 1 + 1, 4, none⟩ (.slice none 0 0)) = w9 at *
    have hbe : Below w.heap.size w w9 := HB5.out.trans ⟨f3.os, f3.tape, f3.output, f3.size, fun b hb => f3.block b (Nat.lt_of_lt_of_le hb HB5.out.size) ⟨by omega, by omega⟩⟩
    have g0 : w9.cell? ⟨w.heap.size + 1 + 1, 0, none⟩ = some (.int .i64 0) := f1.cell 0
    obtain ⟨k0, k1, k2, k3, k4⟩ := cells5 f2
    exact bodyPost_ret (v := .tuple #[.int .i64 0, out0, .int .i64 12]) (by simp [results, Try.results11, go_sem, out0, g0, k0, k1, k2, k3, k4]) rfl (.inl ⟨by rw [HPE.out]; decide, by rw [HPE.out], hbe⟩)
end
end Go.Proofs.Ythfofnfkopnbhaa
