/- raft, the walk: fed. -/
import Derived.Test.YthfofnfkopnbhaaZ11
namespace Go.Proofs.Ythfofnfkopnbhaa
open Go.RowKit Go.Maps Go.ChangeMaps
set_option linter.unusedVariables false
set_option linter.unusedSimpArgs false
set_option linter.unusedSectionVars false
set_option maxRecDepth 100000

theorem fitAt_none (es : List En) : ∀ (ns : List En) (i : Nat), (∀ j, j < ns.length → FitJ es ns i j) → fitAt En.term es i ns = none
  | [], i, _ => rfl
  | e :: ns, i, h => by
    obtain ⟨x, y, h1, h2, h3⟩ := h 0 (by simp)
    simp at h1 h2
    subst h2
    unfold fitAt
    rw [if_pos (by rw [h1]; simp [h3])]
    refine fitAt_none es ns (i + 1) fun j hj => ?_
    obtain ⟨x, y, h1, h2, h3⟩ := h (j + 1) (by simp; omega)
    exact ⟨x, y, by rw [← h1]; congr 1; omega, by simpa using h2, h3⟩
theorem fitAt_some (es : List En) : ∀ (ns : List En) (i k : Nat), k < ns.length → (∀ j, j < k → FitJ es ns i j) → ¬ FitJ es ns i k → fitAt En.term es i ns = some (i + k)
  | [], i, k, hk, _, _ => by simp at hk
  | e :: ns, i, 0, hk, h, hn => by
    unfold fitAt
    rw [if_neg (fun q => ?_)]
    · rfl
    · cases hx : es[i]? with
      | none => rw [hx] at q; cases q
      | some x =>
        rw [hx] at q
        simp at q
        exact hn ⟨x, e, by simpa using hx, rfl, q⟩
  | e :: ns, i, k + 1, hk, h, hn => by
    obtain ⟨x, y, h1, h2, h3⟩ := h 0 (by omega)
    simp at h1 h2
    subst h2
    unfold fitAt
    rw [if_pos (by rw [h1]; simp [h3])]
    rw [fitAt_some es ns (i + 1) k (by simpa using hk) (fun j hj => ?_) (fun q => hn ?_)]
    · congr 1; omega
    · obtain ⟨x, y, h1, h2, h3⟩ := h (j + 1) (by omega)
      exact ⟨x, y, by rw [← h1]; congr 1; omega, by simpa using h2, h3⟩
    · obtain ⟨x, y, h1, h2, h3⟩ := q
      exact ⟨x, y, by rw [← h1]; congr 1; omega, by simpa using h2, h3⟩
theorem fit_eq {es ns es' : List En} {i t last chg : Int} {ok : Bool} (h : FitP es ns i t last chg ok es') :
    (ok = false ∧ fitP En.term es i t ns = none ∧ es' = es) ∨ (ok = true ∧ fitP En.term es i t ns = some (last, chg, es') ∧ last = i + ns.length ∧ 0 ≤ i ∧ i ≤ es.length) := by
  have hat : (hasAt es i = true ∧ termAt es i = t) ↔ tmAt En.term es i = some t := by
    rw [has_is, term_is]
    cases tmAt En.term es i with
    | none => simp
    | some x => simp
  rcases h with ⟨h, rfl, rfl, rfl, rfl⟩ | ⟨h1, h2, rfl, rfl, h3⟩
  · refine .inl ⟨rfl, ?_, rfl⟩
    unfold fitP
    rw [if_neg (fun q => h (hat.2 q))]
  · have hr : 0 ≤ i ∧ i ≤ (es.length : Int) := by simpa [hasAt] using h1
    refine .inr ⟨rfl, ?_, rfl, hr⟩
    unfold fitP
    rw [if_pos (hat.1 ⟨h1, h2⟩)]
    rcases h3 with ⟨h4, rfl, rfl⟩ | ⟨k, hk, hj, hn, hle, rfl, rfl⟩
    · rw [fitAt_none _ _ _ h4]
    · rw [fitAt_some _ _ _ k hk hj hn]
      simp only
      congr 1
      refine Prod.ext rfl (Prod.ext ?_ ?_)
      · show ((i.toNat + k : Nat) : Int) + 1 = i + 1 + k
        omega
      · show es.take (i.toNat + k) ++ ns.drop (i.toNat + k - i.toNat) = _
        rw [show i.toNat + k - i.toNat = k by omega]
section
variable {w w' : World} {P : Nat} {n id : Int} {m : Pm} {R : Nat → Prop} {c c' : Cs En}
set_option maxHeartbeats 2000000 in
theorem fed_any (l : Lt En) (ver : Int) (A : Option Addr) (d : Nat) (K : Nat → Prop) (h : PeA w P n id m R c) (hk : Ok n id c) (ho : c.out.length ≤ 20000) (he : Ents w K A d l.ents) (hK : ∀ b, K b → b < w.heap.size ∧ ¬ m.Own P b)
    (hx1 : -1000000000000000 ≤ l.idx) (hx2 : l.idx ≤ 1000000000000000) (hne : l.ents.length ≤ 10000) (hd : ∀ e ∈ l.ents, e.data.length ≤ 100000000) :
    Calls Try.prog 54 #[.pointer (some ⟨P, 0, none⟩), ltA l ver A d] w fun e w' => e = .returned (.tuple #[]) ∧ Went P n id m R (fedP En.term id l c) w w' := by
  have hP := h.plt
  have hbA : Below w.heap.size w (w.alloc (.cells (ltV l ver A d).toArray 40)) := (Below.refl _ _).alloc (Nat.le_refl _) _
  have hlb : Bk (w.alloc (.cells (ltV l ver A d).toArray 40)) w.heap.size 40 (ltV l ver A d) := Bk.new w _ _
  have hAA := h.below hbA
  have hPn : P ≠ w.heap.size := by omega
  have hPn' : w.heap.size ≠ P := by omega
  have hown : ∀ b, m.Own P b → b < w.heap.size := h.r.own
  obtain ⟨c0, c1, c2, c3, c4, c5, c6, c7, c8, c9, c10, c11, c12, c13⟩ := hAA.cells
  obtain ⟨l0, l1, l2, l3, l4, l5, l6, l7, l8, l9⟩ := cells10 hlb
  have f8 := hAA.frozen 8
  have f9 := hAA.frozen 9
  have f10 := hAA.frozen 10
  have HOWN := Lib.hid hown
  have HAA := Lib.hid hAA
  have HLB := Lib.hid hlb
  have HBA := Lib.hid hbA
  clear h hP hbA hlb hAA hown
  by_cases hr : c.p.role = 3
  · have e1 : (c.p.role == 3) = true := by simp [hr]
    have HR := Lib.hid hr
    clear hr
    go_enter Try.func54, Try.ntmps54
    unfold ltA
    simp only [ltV] at HAA HLB HBA c0 c1 c2 c3 c4 c5 c6 c7 c8 c9 c10 c11 c12 c13 l0 l1 l2 l3 l4 l5 l6 l7 l8 l9 ⊢
    go_wp2_with fail
    refine bodyPost_ret (results_none rfl _ _ _) rfl ⟨rfl, ?_⟩
    unfold fedP
    rw [if_pos HR.out]
    exact ⟨m, R, HAA.out, fun b hb => .inl hb, fun b hb => .inl hb, Ag.of_below _ HBA.out⟩
  · have e1 : (c.p.role == 3) = false := by simp [hr]
    have HR := Lib.hid hr
    clear hr
    go_enter Try.func54, Try.ntmps54
    unfold ltA
    simp only [ltV] at HAA HLB HBA c0 c1 c2 c3 c4 c5 c6 c7 c8 c9 c10 c11 c12 c13 l0 l1 l2 l3 l4 l5 l6 l7 l8 l9 f8 f9 f10 ⊢
    go_wp2_with fail
    generalize (w.alloc (.cells #[.int .u8 l.kind, .int .i64 l.src, .int .i64 l.dst, .int .i64 l.term, .int .i64 l.idx, .int .i64 l.was, .bool l.ok, .int .i64 l.com, .int .i64 ver, .slice A l.ents.length d] 40)) = wa at *
    go_region
    have hG2 : Ag (fun b => b ≠ P) w (((wa.setCell ⟨P, 8, none⟩ (.int .i64 1)).setCell ⟨P, 9, none⟩ (.int .i64 l.src)).setCell ⟨P, 10, none⟩ (.int .i64 0)).drew := ((((Ag.of_below _ HBA.out).setCell (p := ⟨P, 8, none⟩) (fun _ hK => hK rfl) _).setCell (p := ⟨P, 9, none⟩) (fun _ hK => hK rfl) _).setCell (p := ⟨P, 10, none⟩) (fun _ hK => hK rfl) _).drew
    have hGa : Ag (fun b => b ≠ P) wa (((wa.setCell ⟨P, 8, none⟩ (.int .i64 1)).setCell ⟨P, 9, none⟩ (.int .i64 l.src)).setCell ⟨P, 10, none⟩ (.int .i64 0)).drew := ((((Ag.refl _ wa).setCell (p := ⟨P, 8, none⟩) (fun _ hK => hK rfl) _).setCell (p := ⟨P, 9, none⟩) (fun _ hK => hK rfl) _).setCell (p := ⟨P, 10, none⟩) (fun _ hK => hK rfl) _).drew
    have hP2 : PeA (((wa.setCell ⟨P, 8, none⟩ (.int .i64 1)).setCell ⟨P, 9, none⟩ (.int .i64 l.src)).setCell ⟨P, 10, none⟩ (.int .i64 0)).drew P n id m R { c with p := { c.p with role := 1, leader := l.src, waited := 0 } } :=
      ⟨((((HAA.out.obj.set 8 (.int .i64 1)).set 9 (.int .i64 l.src)).set 10 (.int .i64 0)).drew : Bk _ _ _ _), (HAA.out.r.ag (hGa.mono (fun b _ hb => hb.elim And.right (fun h e => (HAA.out.r.rr b h).2 (.inl e))))).re rfl rfl rfl rfl rfl (fun e => by cases e) (fun e => by cases e)⟩
    have hlb2 := HLB.out.ag hGa hPn'
    generalize (((wa.setCell ⟨P, 8, none⟩ (.int .i64 1)).setCell ⟨P, 9, none⟩ (.int .i64 l.src)).setCell ⟨P, 10, none⟩ (.int .i64 0)).drew = w2 at *
    clear c0 c1 c2 c3 c4 c5 c6 c7 c8 c9 c10 c11 c12 c13 l0 l1 l2 l3 l4 l5 l6 l7 l8 l9 f8 f9 f10 hGa
    have he2 : Ents w2 K A d l.ents := he.keep (fun b hb => hG2.block b (hK b hb).1 (fun e => (hK b hb).2 (.inl e))) (fun _ h => h)
    have hz2 : w.heap.size < w2.heap.size := hlb2.lt
    have hFit := FitS_any m.L K A d l.ents w2.drew m.lp c.p.log l.idx l.was hP2.drew.r.log (he2.keep (fun _ _ => rfl) (fun _ h => h)) (fun b hb => ⟨Nat.lt_trans (hK b hb).1 hz2, fun hL => (hK b hb).2 (.inr (.inl hL))⟩) (by have := hk.len; omega) hd
    have g7 : w2.cell? ⟨P, 7, none⟩ = some (.pointer (some ⟨m.lp, 0, none⟩)) := hP2.obj.cell 7
    obtain ⟨l0, l1, l2, l3, l4, l5, l6, l7, l8, l9⟩ := cells10 hlb2
    have HP2 := Lib.hid hP2
    have HLB2 := Lib.hid hlb2
    have HG2 := Lib.hid hG2
    have HZ2 := Lib.hid hz2
    have HFit := Lib.hid hFit
    clear hP2 hlb2 hG2 hz2 he2 hFit
    go_wp2_with fail
    go_region_held3 (fun w' => w'.cell? ⟨P, 7, none⟩ = some (.pointer (some ⟨m.lp, 0, none⟩)) ∧ w'.cell? ⟨w.heap.size, 4, none⟩ = some (.int .i64 l.idx) ∧ w'.cell? ⟨w.heap.size, 5, none⟩ = some (.int .i64 l.was) ∧ w'.cell? ⟨w.heap.size, 9, none⟩ = some (.slice A l.ents.length d)) (first | exact ⟨g7, l4, l5, l9⟩ | exact ⟨G7.out, L4.out, L5.out, L9.out⟩)
      (first | (go_at_call 67; refine HFit.out.mono ?_; rintro _ w3 ⟨last, chg, ok, es', rfl, hfp, hlog3, hA3⟩; have HP3 := Lib.hid (HP2.out.drew.logTo hlog3 (fun b hb => hb) hA3); have HLB3 := Lib.hid (HLB2.out.drew.ag hA3 (fun hL => by have := HOWN.out _ (.inr (.inl hL)); omega)); have G7 := Lib.hid (HP3.out.1.obj.cell 7); have L4 := Lib.hid (HLB3.out.cell 4); have L5 := Lib.hid (HLB3.out.cell 5); have L9 := Lib.hid (HLB3.out.cell 9); have HFP := Lib.hid (fit_eq hfp); have HA3 := Lib.hid hA3; clear hfp hlog3 hA3))
    have hAw : Hid (Ag (fun b => ¬ m.Own P b) w w3) := Lib.hid ((HG2.out.mono (K' := fun b => ¬ m.Own P b) (fun b _ hno e => hno (.inl e))).drew.trans (HA3.out.mono (K' := fun b => ¬ m.Own P b) (fun b _ hno hL => hno (.inr (.inl hL)))))
    obtain ⟨hP3, hO3⟩ := HP3.out
    have hZ3 := HA3.out.size
    have hZ3' : w2.heap.size ≤ w3.heap.size := hZ3
    have hz2 := HZ2.out
    clear g7 l0 l1 l2 l3 l4 l5 l6 l7 l8 l9 hZ3
    rcases HFP.out with ⟨rfl, hf, rfl⟩ | ⟨rfl, hf, hl1, hl2, hl3⟩
    · have hP3' : PeA w3 P n id _ R { c with p := { c.p with role := 1, leader := l.src, waited := 0 } } := hP3
      have g7 : w3.cell? ⟨P, 7, none⟩ = some (.pointer (some ⟨m.lp, 0, none⟩)) := hP3'.obj.cell 7
      have HL := last_peer hP3'
      have HF := Lib.hid hf
      have HP3' := Lib.hid hP3'
      have HO3 := Lib.hid hO3
      clear hP3 hO3 hf hP3' HP3
      go_wp2_with fail
      refine HL.mono ?_
      rintro _ w4 ⟨rfl, hb4⟩
      have hP4 := HP3'.out.below hb4
      have hlb4 := HLB3.out.below hb4 HLB3.out.lt
      obtain ⟨l0, l1, l2, l3, l4, l5, l6, l7, l8, l9⟩ := cells10 hlb4
      have HS := send_bare l.src { (lt0 4 : Lt En) with ok := false, idx := min (c.p.log.length : Int) (l.idx - 1) } rfl hP4 (Nat.le_trans ho (by decide))
      simp only [ltA, ltV, lt0, List.length_nil] at HS
      have HB4 := Lib.hid hb4
      clear HL hb4 hP4 hlb4
      go_wp2_with fail
      refine HS.mono ?_
      rintro _ w5 ⟨rfl, hw⟩
      clear HS
      go_wp2_with fail
      go_end0
      refine ⟨rfl, ?_⟩
      have hq : fedP En.term id l c = sendP id { c with p := { c.p with role := 1, leader := l.src, waited := 0 } } l.src { (lt0 4 : Lt En) with ok := false, idx := min (c.p.log.length : Int) (l.idx - 1) } := by
        unfold fedP
        rw [if_neg HR.out]
        simp only [HF.out]
      rw [hq]
      exact Went.seq (fun b hb => (HO3.out b hb).imp (fun x => x) (fun h => Nat.le_trans (Nat.le_of_lt hz2) h)) (fun b hb => .inl hb) (hAw.out.trans (Ag.of_below _ (HB4.out.mono (by omega)) |>.mono (fun _ _ h => h))) hw
    · have hCh := changed_any chg hP3
      have HF := Lib.hid hf
      have HO3 := Lib.hid hO3
      have HL1 := Lib.hid hl1
      clear hP3 hO3 hf hl1 HP3
      go_wp2_with fail
      refine hCh.mono ?_
      rintro _ w4 ⟨rfl, hP4, hA4⟩
      have hq4 : (changedP ({ c with p := { c.p with role := 1, leader := l.src, waited := 0, log := es' } } : Cs En) chg).p.C = c.p.C ∧ (changedP ({ c with p := { c.p with role := 1, leader := l.src, waited := 0, log := es' } } : Cs En) chg).out = c.out := by
        have := changed_p ({ c with p := { c.p with role := 1, leader := l.src, waited := 0, log := es' } } : Cs En) chg
        exact ⟨by rw [this.1], this.2⟩
      have hP4 : PeA w4 P n id _ R (changedP ({ c with p := { c.p with role := 1, leader := l.src, waited := 0, log := es' } } : Cs En) chg) := hP4
      have hq : fedP En.term id l c = sendP id { (changedP ({ c with p := { c.p with role := 1, leader := l.src, waited := 0, log := es' } } : Cs En) chg) with p := { (changedP ({ c with p := { c.p with role := 1, leader := l.src, waited := 0, log := es' } } : Cs En) chg).p with C := max c.p.C (min l.com last) } } l.src { (lt0 4 : Lt En) with ok := true, idx := last } := by
        unfold fedP
        rw [if_neg HR.out]
        simp only [HF.out]
        rw [hq4.1]
      generalize (changedP ({ c with p := { c.p with role := 1, leader := l.src, waited := 0, log := es' } } : Cs En) chg) = c4 at *
      have hlb4 := HLB3.out.ag hA4 hPn'
      obtain ⟨l0, l1, l2, l3, l4, l5, l6, l7, l8, l9⟩ := cells10 hlb4
      have g3 : w4.cell? ⟨P, 3, none⟩ = some (.int .i64 c.p.C) := by rw [hP4.obj.cell 3]; show some (Value.int .i64 c4.p.C) = _; rw [hq4.1]
      have f3 := hP4.frozen 3
      have hP5 : PeA (w4.drew.setCell ⟨P, 3, none⟩ (.int .i64 (max c.p.C (min l.com last)))) P n id _ R { c4 with p := { c4.p with C := max c.p.C (min l.com last) } } := hP4.drew.set 3 _ rfl (hP4.drew.r.re rfl rfl rfl rfl rfl hP4.r.vn hP4.r.keys)
      have hA5 : Ag (fun b => b ≠ P) w4 (w4.drew.setCell ⟨P, 3, none⟩ (.int .i64 (max c.p.C (min l.com last)))) := ((Ag.refl _ w4).drew).setCell (p := ⟨P, 3, none⟩) (fun _ hK => hK rfl) _
      have hlb5 := hlb4.ag hA5 hPn'
      have HS := send_bare l.src { (lt0 4 : Lt En) with ok := true, idx := last } rfl hP5 (by rw [hq4.2]; exact Nat.le_trans ho (by decide))
      simp only [ltA, ltV, lt0, List.length_nil] at HS
      have m1 : (w4.drew.setCell ⟨P, 3, none⟩ (.int .i64 (max c.p.C (min l.com last)))).cell? ⟨w.heap.size, 1, none⟩ = some (.int .i64 l.src) := hlb5.cell 1
      have HQ := Lib.hid hq
      have HA4 := Lib.hid hA4
      have HA5 := Lib.hid hA5
      clear hCh hP4 hA4 hq4 hq hlb4 hlb5 hP5 hA5
      go_wp2_with fail
      go_still_tail 14, (by kernel_rfl)
      go_wp2_with fail
      change Calls _ _ _ (w4.drew.setCell ⟨P, 3, none⟩ (.int .i64 (max c.p.C (min l.com last)))) _
      refine HS.mono ?_
      rintro _ w5 ⟨rfl, hw⟩
      clear HS
      go_wp2_with fail
      go_end0
      refine ⟨rfl, ?_⟩
      rw [HQ.out]
      have hs45 := HA5.out.size
      have hs34 := HA4.out.size
      exact Went.seq (fun b hb => (HO3.out b hb).imp (fun x => x) (fun h => Nat.le_trans (Nat.le_of_lt hz2) h)) (fun b hb => .inl hb) (hAw.out.trans ((HA4.out.trans HA5.out).mono (fun b _ hno e => hno (.inl e)))) hw
end
end Go.Proofs.Ythfofnfkopnbhaa

