/- raft, the walk: stand, whole. -/
import Derived.Test.YthfofnfkopnbhaaZ10
namespace Go.Proofs.Ythfofnfkopnbhaa
open Go.RowKit Go.Maps Go.ChangeMaps
set_option linter.unusedVariables false
set_option linter.unusedSimpArgs false
set_option linter.unusedSectionVars false
set_option maxRecDepth 100000

section
variable {w w' : World} {P : Nat} {n id : Int} {m : Pm} {R : Nat → Prop} {c c' : Cs En}
theorem limit_is (draw : Int) : (10 + draw.tmod 10 % 10 : Int) = 10 + ((draw.tmod 10) + 10).tmod 10 := by
  have h1 := Int.lt_tmod_of_pos draw (show (0 : Int) < 10 by decide)
  generalize draw.tmod 10 = d at *
  rw [Int.tmod_eq_emod_of_nonneg (by omega)]
  omega
theorem stS {w' : World} {P pb k : Nat} {v a b : Value} (hP : P ≠ pb) (hk : k ≠ 5) (h : w'.cell? ⟨pb, 0, none⟩ = some a ∧ w'.cell? ⟨P, 5, none⟩ = some b) : (w'.setCell ⟨P, k, none⟩ v).cell? ⟨pb, 0, none⟩ = some a ∧ (w'.setCell ⟨P, k, none⟩ v).cell? ⟨P, 5, none⟩ = some b := by
  refine ⟨?_, ?_⟩
  · rw [World.cell?_setCell_other (h := fun e => hP (congrArg Addr.block e))]; exact h.1
  · rw [World.cell?_setCell_other (h := fun e => hk (congrArg Addr.off e))]; exact h.2
set_option maxHeartbeats 1000000 in
theorem stand_any (draw : Int) (h : PeA w P n id m R c) (hl : Lm c) (hlen : c.p.log.length ≤ 80000) (ho : c.out.length ≤ 20000) (hT0 : 0 ≤ c.p.T) (hT : c.p.T < 1099511627776) (hi1 : 1 ≤ id) (hi2 : id ≤ n) (hn7 : n ≤ 7) :
    Calls Try.prog 34 #[.pointer (some ⟨P, 0, none⟩), .int .i64 draw] w fun e w' => e = .returned (.tuple #[]) ∧ Went P n id m R (standP En.term noopE n id draw c) w w' := by
  have hP := h.plt
  have hq7 : n.toNat ≤ 7 := by omega
  have hd1 : -10 < draw.tmod 10 := Int.lt_tmod_of_pos draw (by decide)
  have hd2 : draw.tmod 10 < 10 := Int.tmod_lt_of_pos draw (by decide)
  have HLI := Lib.hid (limit_is draw)
  have hbA : Below w.heap.size w (w.alloc (.cells #[.pointer (some ⟨P, 0, none⟩)] 46)) := (Below.refl _ _).alloc (Nat.le_refl _) _
  have hAA := h.below hbA
  obtain ⟨c0, c1, c2, c3, c4, c5, c6, c7, c8, c9, c10, c11, c12, c13⟩ := hAA.cells
  have hza : (w.alloc (.cells #[.pointer (some ⟨P, 0, none⟩)] 46)).heap.size = w.heap.size + 1 := by simp
  have hpb : Bk (w.alloc (.cells #[.pointer (some ⟨P, 0, none⟩)] 46)) w.heap.size 46 [.pointer (some ⟨P, 0, none⟩)] := Bk.new w _ _
  have hpc : (w.alloc (.cells #[.pointer (some ⟨P, 0, none⟩)] 46)).cell? ⟨w.heap.size, 0, none⟩ = some (.pointer (some ⟨P, 0, none⟩)) := hpb.cell 0
  have hPn : P ≠ w.heap.size := by omega
  have hPn' : w.heap.size ≠ P := by omega
  have f11 := hAA.frozen 11
  have f0 := hAA.frozen 0
  have HAA := Lib.hid hAA
  have H := Lib.hid h
  have HPB := Lib.hid hpb
  have HZA := Lib.hid hza
  have HP := Lib.hid hP
  clear h hza hpb hP hAA
  go_enter Try.func34, Try.ntmps34
  go_wp2_with fail
  have HA2 : Hid (PeA (((w.alloc (.cells #[.pointer (some ⟨P, 0, none⟩)] 46)).setCell ⟨P, 11, none⟩ (.int .i64 (10 + draw.tmod 10 % 10))).setCell ⟨P, 0, none⟩ (.int .i64 (c.p.T + 1))) P n id m R { c with p := { c.p with limit := 10 + draw.tmod 10 % 10, T := c.p.T + 1 } }) :=
    Lib.hid ((HAA.out.set (c' := { c with p := { c.p with limit := 10 + draw.tmod 10 % 10 } }) 11 _ rfl (HAA.out.r.re rfl rfl rfl rfl rfl HAA.out.r.vn HAA.out.r.keys)).set 0 _ rfl (HAA.out.r.ag (by
      refine (Ag.refl _ _).setCell (p := ⟨P, 11, none⟩) (fun _ hK => ?_) _
      exact hK.elim (fun h => h.2 rfl) (fun h => (HAA.out.r.rr _ h).2 (.inl rfl))) |>.re rfl rfl rfl rfl rfl HAA.out.r.vn HAA.out.r.keys))
  have HPB2 : Hid (Bk (((w.alloc (.cells #[.pointer (some ⟨P, 0, none⟩)] 46)).setCell ⟨P, 11, none⟩ (.int .i64 (10 + draw.tmod 10 % 10))).setCell ⟨P, 0, none⟩ (.int .i64 (c.p.T + 1))) w.heap.size 46 [.pointer (some ⟨P, 0, none⟩)]) := Lib.hid ((HPB.out.far hPn' _).far hPn' _)
  have HG2 : Hid (Ag (fun b => b ≠ P) w (((w.alloc (.cells #[.pointer (some ⟨P, 0, none⟩)] 46)).setCell ⟨P, 11, none⟩ (.int .i64 (10 + draw.tmod 10 % 10))).setCell ⟨P, 0, none⟩ (.int .i64 (c.p.T + 1)))) := Lib.hid (((Ag.of_below _ hbA).setCell (p := ⟨P, 11, none⟩) (fun _ hK => hK rfl) _).setCell (p := ⟨P, 0, none⟩) (fun _ hK => hK rfl) _)
  have HZ2 : Hid ((((w.alloc (.cells #[.pointer (some ⟨P, 0, none⟩)] 46)).setCell ⟨P, 11, none⟩ (.int .i64 (10 + draw.tmod 10 % 10))).setCell ⟨P, 0, none⟩ (.int .i64 (c.p.T + 1))).heap.size = w.heap.size + 1) := Lib.hid (by simp [World.setCell, HZA.out])
  generalize (((w.alloc (.cells #[.pointer (some ⟨P, 0, none⟩)] 46)).setCell ⟨P, 11, none⟩ (.int .i64 (10 + draw.tmod 10 % 10))).setCell ⟨P, 0, none⟩ (.int .i64 (c.p.T + 1))) = w2 at *
  clear c0 c1 c2 c3 c4 c5 c6 c7 c8 c9 c10 c11 c12 c13 f11 f0 hpc hbA HAA HPB HZA
  obtain ⟨c0, c1, c2, c3, c4, c5, c6, c7, c8, c9, c10, c11, c12, c13⟩ := HA2.out.cells
  have hpc : w2.cell? ⟨w.heap.size, 0, none⟩ = some (.pointer (some ⟨P, 0, none⟩)) := HPB2.out.cell 0
  have f1 := HA2.out.frozen 1
  have f8 := HA2.out.frozen 8
  have f9 := HA2.out.frozen 9
  have f10 := HA2.out.frozen 10
  have HPN := Lib.hid hPn
  refine wp_region_held_drew (S := fun w' => w'.cell? ⟨w.heap.size, 0, none⟩ = some (.pointer (some ⟨P, 0, none⟩)) ∧ w'.cell? ⟨P, 5, none⟩ = some (.int .i64 id)) (by kernel_rfl) ⟨hpc, c5⟩ (fun hS => ?_)
  refine wpAnyH_take (i := 0) (v := ?_) rfl (by kernel_rfl) (by kernel_rfl) (by kernel_rfl) (fun _ _ _ h => h) (Or.inl ⟨by rfl, ?_⟩) hS ?_
  rotate_left 1
  · intro w' hSw
    go_simp <;> with_reducible rfl
  try simp only [List.getElem_toArray, List.getElem_cons_zero, List.getElem_cons_succ, Act.put, List.setIfInBounds_toArray, List.set_cons_zero, List.set_cons_succ]
  refine wpAnyH_take (i := 1) (v := ?_) rfl (by kernel_rfl) (by kernel_rfl) (by kernel_rfl) (fun _ _ _ h => h) (Or.inl ⟨by rfl, ?_⟩) hS ?_
  rotate_left 1
  · intro w' hSw
    go_simp <;> with_reducible rfl
  try simp only [List.getElem_toArray, List.getElem_cons_zero, List.getElem_cons_succ, Act.put, List.setIfInBounds_toArray, List.set_cons_zero, List.set_cons_succ]
  refine wpAnyH_take (i := 2) (v := ?_) rfl (by kernel_rfl) (by kernel_rfl) (by kernel_rfl) (fun _ _ _ h => h) (Or.inl ⟨by rfl, ?_⟩) hS ?_
  rotate_left 1
  · intro w' hSw
    go_simp <;> with_reducible rfl
  try simp only [List.getElem_toArray, List.getElem_cons_zero, List.getElem_cons_succ, Act.put, List.setIfInBounds_toArray, List.set_cons_zero, List.set_cons_succ]
  refine wpAnyH_take (i := 3) (v := ?_) rfl (by kernel_rfl) (by kernel_rfl) (by kernel_rfl) (fun _ _ _ h => h) (Or.inl ⟨by rfl, ?_⟩) hS ?_
  rotate_left 1
  · intro w' hSw
    go_simp <;> with_reducible rfl
  try simp only [List.getElem_toArray, List.getElem_cons_zero, List.getElem_cons_succ, Act.put, List.setIfInBounds_toArray, List.set_cons_zero, List.set_cons_succ]
  refine wpAnyH_take (i := 4) (v := ?_) rfl (by kernel_rfl) (by kernel_rfl) (by kernel_rfl) (fun _ _ _ h => h) (Or.inl ⟨by rfl, ?_⟩) hS ?_
  rotate_left 1
  · intro w' hSw
    go_simp <;> with_reducible rfl
  try simp only [List.getElem_toArray, List.getElem_cons_zero, List.getElem_cons_succ, Act.put, List.setIfInBounds_toArray, List.set_cons_zero, List.set_cons_succ]
  refine wpAnyH_take (i := 5) (v := ?_) rfl (by kernel_rfl) (by kernel_rfl) (by kernel_rfl) (fun _ _ _ h => h) (Or.inl ⟨by rfl, ?_⟩) hS ?_
  rotate_left 1
  · intro w' hSw
    go_simp <;> with_reducible rfl
  try simp only [List.getElem_toArray, List.getElem_cons_zero, List.getElem_cons_succ, Act.put, List.setIfInBounds_toArray, List.set_cons_zero, List.set_cons_succ]
  refine wpAnyH_take (i := 6) (v := ?_) rfl (by kernel_rfl) (by kernel_rfl) (by kernel_rfl) (fun _ _ _ h => h) (Or.inl ⟨by rfl, ?_⟩) hS ?_
  rotate_left 1
  · intro w' hSw
    go_simp <;> with_reducible rfl
  try simp only [List.getElem_toArray, List.getElem_cons_zero, List.getElem_cons_succ, Act.put, List.setIfInBounds_toArray, List.set_cons_zero, List.set_cons_succ]
  refine wpAnyH_take (i := 7) (v := ?_) rfl (by kernel_rfl) (by kernel_rfl) (by kernel_rfl) (fun _ _ _ h => h) (Or.inl ⟨by rfl, ?_⟩) hS ?_
  rotate_left 1
  · intro w' hSw
    go_simp <;> with_reducible rfl
  try simp only [List.getElem_toArray, List.getElem_cons_zero, List.getElem_cons_succ, Act.put, List.setIfInBounds_toArray, List.set_cons_zero, List.set_cons_succ]
  refine wpAnyH_take (i := 8) (v := ?_) rfl (by kernel_rfl) (by kernel_rfl) (by kernel_rfl) (fun _ _ _ h => h) (Or.inl ⟨by rfl, ?_⟩) hS ?_
  rotate_left 1
  · intro w' hSw
    go_simp <;> with_reducible rfl
  try simp only [List.getElem_toArray, List.getElem_cons_zero, List.getElem_cons_succ, Act.put, List.setIfInBounds_toArray, List.set_cons_zero, List.set_cons_succ]
  refine wpAnyH_take (i := 9) (v := ?_) rfl (by kernel_rfl) (by kernel_rfl) (by kernel_rfl) (fun _ _ _ h => h) (Or.inl ⟨by rfl, ?_⟩) hS ?_
  rotate_left 1
  · intro w' hSw
    go_simp <;> with_reducible rfl
  try simp only [List.getElem_toArray, List.getElem_cons_zero, List.getElem_cons_succ, Act.put, List.setIfInBounds_toArray, List.set_cons_zero, List.set_cons_succ]
  refine wpAnyH_take (i := 10) (v := ?_) rfl (by kernel_rfl) (by kernel_rfl) (by kernel_rfl) (fun _ _ _ h => h) (Or.inl ⟨by rfl, ?_⟩) hS ?_
  rotate_left 1
  · intro w' hSw
    go_simp <;> with_reducible rfl
  try simp only [List.getElem_toArray, List.getElem_cons_zero, List.getElem_cons_succ, Act.put, List.setIfInBounds_toArray, List.set_cons_zero, List.set_cons_succ]
  refine wpAnyH_ready (rs := [11]) (by kernel_rfl) (by simp) (AllReadyH.cons rfl (fun K hK => ?_) AllReadyH.nil)
  go_simp
  refine hK _ _ (stS HPN.out (by decide) hS) (fun hS => ?_)
  clear hK K
  try simp only [List.getElem_toArray, List.getElem_cons_zero, List.getElem_cons_succ, Act.put, List.setIfInBounds_toArray, List.set_cons_zero, List.set_cons_succ]
  try simp only [List.getElem_toArray, List.getElem_cons_zero, List.getElem_cons_succ, Act.put, List.setIfInBounds_toArray, List.set_cons_zero, List.set_cons_succ]
  refine wpAnyH_take (i := 12) (v := ?_) rfl (by kernel_rfl) (by kernel_rfl) (by kernel_rfl) (fun _ _ _ h => h) (Or.inl ⟨by rfl, ?_⟩) hS ?_
  rotate_left 1
  · intro w' hSw
    go_simp <;> with_reducible rfl
  try simp only [List.getElem_toArray, List.getElem_cons_zero, List.getElem_cons_succ, Act.put, List.setIfInBounds_toArray, List.set_cons_zero, List.set_cons_succ]
  refine wpAnyH_take (i := 13) (v := ?_) rfl (by kernel_rfl) (by kernel_rfl) (by kernel_rfl) (fun _ _ _ h => h) (Or.inl ⟨by rfl, ?_⟩) hS ?_
  rotate_left 1
  · intro w' hSw
    go_simp <;> with_reducible rfl
  try simp only [List.getElem_toArray, List.getElem_cons_zero, List.getElem_cons_succ, Act.put, List.setIfInBounds_toArray, List.set_cons_zero, List.set_cons_succ]
  refine wpAnyH_ready (rs := [14]) (by kernel_rfl) (by simp) (AllReadyH.cons rfl (fun K hK => ?_) AllReadyH.nil)
  go_simp
  refine hK _ _ (stS HPN.out (by decide) hS) (fun hS => ?_)
  clear hK K
  try simp only [List.getElem_toArray, List.getElem_cons_zero, List.getElem_cons_succ, Act.put, List.setIfInBounds_toArray, List.set_cons_zero, List.set_cons_succ]
  try simp only [List.getElem_toArray, List.getElem_cons_zero, List.getElem_cons_succ, Act.put, List.setIfInBounds_toArray, List.set_cons_zero, List.set_cons_succ]
  refine wpAnyH_take (i := 15) (v := ?_) rfl (by kernel_rfl) (by kernel_rfl) (by kernel_rfl) (fun _ _ _ h => h) (Or.inl ⟨by rfl, ?_⟩) hS ?_
  rotate_left 1
  · intro w' hSw
    go_simp <;> with_reducible rfl
  try simp only [List.getElem_toArray, List.getElem_cons_zero, List.getElem_cons_succ, Act.put, List.setIfInBounds_toArray, List.set_cons_zero, List.set_cons_succ]
  refine wpAnyH_take (i := 16) (v := ?_) rfl (by kernel_rfl) (by kernel_rfl) (by kernel_rfl) (fun _ _ _ h => h) (Or.inl ⟨by rfl, ?_⟩) hS ?_
  rotate_left 1
  · intro w' hSw
    go_simp <;> with_reducible rfl
  try simp only [List.getElem_toArray, List.getElem_cons_zero, List.getElem_cons_succ, Act.put, List.setIfInBounds_toArray, List.set_cons_zero, List.set_cons_succ]
  refine wpAnyH_ready (rs := [17]) (by kernel_rfl) (by simp) (AllReadyH.cons rfl (fun K hK => ?_) AllReadyH.nil)
  go_simp
  refine hK _ _ (stS HPN.out (by decide) hS) (fun hS => ?_)
  clear hK K
  try simp only [List.getElem_toArray, List.getElem_cons_zero, List.getElem_cons_succ, Act.put, List.setIfInBounds_toArray, List.set_cons_zero, List.set_cons_succ]
  try simp only [List.getElem_toArray, List.getElem_cons_zero, List.getElem_cons_succ, Act.put, List.setIfInBounds_toArray, List.set_cons_zero, List.set_cons_succ]
  refine wpAnyH_take (i := 18) (v := ?_) rfl (by kernel_rfl) (by kernel_rfl) (by kernel_rfl) (fun _ _ _ h => h) (Or.inl ⟨by rfl, ?_⟩) hS ?_
  rotate_left 1
  · intro w' hSw
    go_simp <;> with_reducible rfl
  try simp only [List.getElem_toArray, List.getElem_cons_zero, List.getElem_cons_succ, Act.put, List.setIfInBounds_toArray, List.set_cons_zero, List.set_cons_succ]
  refine wpAnyH_take (i := 19) (v := ?_) rfl (by kernel_rfl) (by kernel_rfl) (by kernel_rfl) (fun _ _ _ h => h) (Or.inl ⟨by rfl, ?_⟩) hS ?_
  rotate_left 1
  · intro w' hSw
    go_simp <;> with_reducible rfl
  try simp only [List.getElem_toArray, List.getElem_cons_zero, List.getElem_cons_succ, Act.put, List.setIfInBounds_toArray, List.set_cons_zero, List.set_cons_succ]
  refine wpAnyH_ready (rs := [20]) (by kernel_rfl) (by simp) (AllReadyH.cons rfl (fun K hK => ?_) AllReadyH.nil)
  go_simp
  refine hK _ _ (stS HPN.out (by decide) hS) (fun hS => ?_)
  clear hK K
  try simp only [List.getElem_toArray, List.getElem_cons_zero, List.getElem_cons_succ, Act.put, List.setIfInBounds_toArray, List.set_cons_zero, List.set_cons_succ]
  try simp only [List.getElem_toArray, List.getElem_cons_zero, List.getElem_cons_succ, Act.put, List.setIfInBounds_toArray, List.set_cons_zero, List.set_cons_succ]
  refine wpAnyH_done (by kernel_rfl) ?_ _
  have hG3 : Ag (fun b => b ≠ P) w2 ((((w2.setCell ⟨P, 1, none⟩ (.int .i64 id)).setCell ⟨P, 8, none⟩ (.int .i64 2)).setCell ⟨P, 9, none⟩ (.int .i64 0)).setCell ⟨P, 10, none⟩ (.int .i64 0)).drew := (((((Ag.refl _ w2).setCell (p := ⟨P, 1, none⟩) (fun _ hK => hK rfl) _).setCell (p := ⟨P, 8, none⟩) (fun _ hK => hK rfl) _).setCell (p := ⟨P, 9, none⟩) (fun _ hK => hK rfl) _).setCell (p := ⟨P, 10, none⟩) (fun _ hK => hK rfl) _).drew
  have hO3 : Bk ((((w2.setCell ⟨P, 1, none⟩ (.int .i64 id)).setCell ⟨P, 8, none⟩ (.int .i64 2)).setCell ⟨P, 9, none⟩ (.int .i64 0)).setCell ⟨P, 10, none⟩ (.int .i64 0)).drew P 54 (peV n id m { c with p := { c.p with limit := 10 + draw.tmod 10 % 10, T := c.p.T + 1, V := id, role := 2, leader := 0, waited := 0 } }) := ((((HA2.out.obj.set 1 (.int .i64 id)).set 8 (.int .i64 2)).set 9 (.int .i64 0)).set 10 (.int .i64 0)).drew
  have hR3 : PeR ((((w2.setCell ⟨P, 1, none⟩ (.int .i64 id)).setCell ⟨P, 8, none⟩ (.int .i64 2)).setCell ⟨P, 9, none⟩ (.int .i64 0)).setCell ⟨P, 10, none⟩ (.int .i64 0)).drew P n id m R { c with p := { c.p with limit := 10 + draw.tmod 10 % 10, T := c.p.T + 1, V := id, role := 1, leader := 0, waited := 0 } } :=
    (HA2.out.r.ag (hG3.mono (fun b _ hb => hb.elim And.right (fun h e => (HA2.out.r.rr b h).2 (.inl e))))).re rfl rfl rfl rfl rfl (fun e => by cases e) (fun e => by cases e)
  have hz3 : ((((w2.setCell ⟨P, 1, none⟩ (.int .i64 id)).setCell ⟨P, 8, none⟩ (.int .i64 2)).setCell ⟨P, 9, none⟩ (.int .i64 0)).setCell ⟨P, 10, none⟩ (.int .i64 0)).drew.heap.size = w2.heap.size := by simp [World.setCell, World.drew]
  generalize ((((w2.setCell ⟨P, 1, none⟩ (.int .i64 id)).setCell ⟨P, 8, none⟩ (.int .i64 2)).setCell ⟨P, 9, none⟩ (.int .i64 0)).setCell ⟨P, 10, none⟩ (.int .i64 0)).drew = w3 at *
  clear c0 c1 c2 c3 c4 c5 c6 c7 c8 c9 c10 c11 c12 c13 f1 f8 f9 f10 hpc
  have HPB3 := Lib.hid (HPB2.out.ag hG3 hPn')
  have c5 : w3.cell? ⟨P, 5, none⟩ = some (.int .i64 id) := hO3.cell 5
  have c12 : w3.cell? ⟨P, 12, none⟩ = some m.vv := hO3.cell 12
  have f12 := hO3.frozen 12
  have hpc : w3.cell? ⟨w.heap.size, 0, none⟩ = some (.pointer (some ⟨P, 0, none⟩)) := HPB3.out.cell 0
  have c5' : ∀ o, (w3.alloc o).cell? ⟨P, 5, none⟩ = some (.int .i64 id) := fun o => (hO3.alloc o).cell 5
  have c12' : ∀ o, (w3.alloc o).cell? ⟨P, 12, none⟩ = some m.vv := fun o => (hO3.alloc o).cell 12
  have f12' : ∀ o, (w3.alloc o).frozen? ⟨P, 12, none⟩ = false := fun o => (hO3.alloc o).frozen 12
  have hpc' : ∀ o, (w3.alloc o).cell? ⟨w.heap.size, 0, none⟩ = some (.pointer (some ⟨P, 0, none⟩)) := fun o => (HPB3.out.alloc o).cell 0
  have hmm := @run_makeMap Try.prog
  have hvt : (Instr.mapUpdate 51 (.map (some w3.heap.size)) (.int .i64 id) (.bool true)).run Try.prog (w3.alloc (.map #[] 0)).drew = .ok () (w3.alloc (.map #[{ key := .int .i64 id, val := .bool true, born := 0 }] 1)).drew := vt_new w3.drew id (by omega)
  have HG3 := Lib.hid hG3
  have HO3 := Lib.hid hO3
  have HR3 := Lib.hid hR3
  have HZ3 := Lib.hid hz3
  clear hG3 hO3 hR3 hz3
  go_wp2_with fail
  go_region
  have hG4 : Ag (fun b => b ≠ P) w3 ((w3.alloc (.map #[{ key := .int .i64 id, val := .bool true, born := 0 }] 1)).setCell ⟨P, 12, none⟩ (.map (some w3.heap.size))).drew := (((Ag.refl _ w3).alloc _).setCell (p := ⟨P, 12, none⟩) (fun _ hK => hK rfl) _).drew
  have hP4 : PeA ((w3.alloc (.map #[{ key := .int .i64 id, val := .bool true, born := 0 }] 1)).setCell ⟨P, 12, none⟩ (.map (some w3.heap.size))).drew P n id { m with vv := .map (some w3.heap.size) } R { c with p := { c.p with limit := 10 + draw.tmod 10 % 10, T := c.p.T + 1, V := id, role := 2, leader := 0, waited := 0, votes := [id] } } := by
    have h1 := HR3.out.newVt HO3.out.lt (s := id) (by omega) (r := 2) (by decide)
    refine ⟨(((HO3.out.alloc (.map #[{ key := .int .i64 id, val := .bool true, born := 0 }] 1)).set 12 (.map (some w3.heap.size))).drew : Bk _ _ _ _), ?_⟩
    exact (h1.ag (((Ag.refl _ _).setCell (p := ⟨P, 12, none⟩) (fun _ hK => hK.elim (fun h => h.2 rfl) (fun h => (h1.rr _ h).2 (.inl rfl))) _).drew)).re rfl rfl rfl rfl rfl h1.vn h1.keys
  have hz4 : ((w3.alloc (.map #[{ key := .int .i64 id, val := .bool true, born := 0 }] 1)).setCell ⟨P, 12, none⟩ (.map (some w3.heap.size))).drew.heap.size = w3.heap.size + 1 := by simp [World.setCell, World.drew]
  generalize ((w3.alloc (.map #[{ key := .int .i64 id, val := .bool true, born := 0 }] 1)).setCell ⟨P, 12, none⟩ (.map (some w3.heap.size))).drew = w4 at *
  clear c5 c12 c5' c12' f12 f12' hpc hpc' hmm hvt
  have HPB4 := Lib.hid (HPB3.out.ag hG4 hPn')
  have HG4 := Lib.hid hG4
  have HP4 := Lib.hid hP4
  have HZ4 := Lib.hid hz4
  clear hG4 hP4 hz4
  have c7 : w4.cell? ⟨P, 7, none⟩ = some (.pointer (some ⟨m.lp, 0, none⟩)) := HP4.out.obj.cell 7
  have hpc : w4.cell? ⟨w.heap.size, 0, none⟩ = some (.pointer (some ⟨P, 0, none⟩)) := HPB4.out.cell 0
  go_wp2_with fail
  refine (Last_any 0 w4 m.lp c.p.log HP4.out.r.log.has).mono ?_
  rintro _ w5 ⟨rfl, hb5⟩
  have HPB5 := Lib.hid (HPB4.out.below hb5 HPB4.out.lt)
  have hpc5 : ∀ o o', ((w5.alloc o).alloc o').cell? ⟨w.heap.size, 0, none⟩ = some (.pointer (some ⟨P, 0, none⟩)) := fun o o' => ((HPB5.out.alloc o).alloc o').cell 0
  have hmf : ∀ (fn : Fn) (first cap : Array Value) (w : World), (Instr.makeFunc fn first cap).run Try.prog w = .ok (.func fn first cap) w := fun _ _ _ _ => rfl
  go_wp2_with fail
  have hb6 : Below w5.heap.size w5 ((w5.alloc (.cells #[.int .i64 c.p.log.length] 3)).alloc (.cells #[.int .i64 (termAt c.p.log c.p.log.length)] 3)) := ((Below.refl _ _).alloc (Nat.le_refl _) _).alloc (by simp) _
  have hI6 : Bk ((w5.alloc (.cells #[.int .i64 c.p.log.length] 3)).alloc (.cells #[.int .i64 (termAt c.p.log c.p.log.length)] 3)) w5.heap.size 3 [.int .i64 c.p.log.length] := (Bk.new w5 _ _).alloc _
  have hT6 : Bk ((w5.alloc (.cells #[.int .i64 c.p.log.length] 3)).alloc (.cells #[.int .i64 (termAt c.p.log c.p.log.length)] 3)) (w5.heap.size + 1) 3 [.int .i64 (termAt c.p.log c.p.log.length)] := by
    have := Bk.new (w5.alloc (.cells #[.int .i64 c.p.log.length] 3)) 3 [.int .i64 (termAt c.p.log c.p.log.length)]
    rw [World.size_alloc] at this
    exact this
  generalize ((w5.alloc (.cells #[.int .i64 c.p.log.length] 3)).alloc (.cells #[.int .i64 (termAt c.p.log c.p.log.length)] 3)) = w6 at *
  have hb46 : Below w4.heap.size w4 w6 := hb5.trans (hb6.mono hb5.size)
  have HP6 := HP4.out.below hb46
  have hPB6 := HPB5.out.below hb6 HPB5.out.lt
  have hown4 : ∀ b, ({ m with vv := .map (some w3.heap.size) } : Pm).Own P b → m.Own P b ∨ b = w3.heap.size := by
    rintro b (e | e | e | e | e | e)
    · exact .inl (.inl e)
    · exact .inl (.inr (.inl e))
    · exact .inl (.inr (.inr (.inl e)))
    · injection e with e; injection e with e; exact .inr e.symm
    · exact .inl (.inr (.inr (.inr (.inr (.inl e)))))
    · exact .inl (.inr (.inr (.inr (.inr (.inr e)))))
  have hnot : ∀ b, w.heap.size ≤ b → b ≠ w3.heap.size → ¬ ({ m with vv := .map (some w3.heap.size) } : Pm).Own P b := fun b h1 h2 e => by
    rcases hown4 b e with e | e
    · have := H.out.r.own b e; omega
    · exact h2 e
  have hz2 := HZ2.out
  have hz3 := HZ3.out
  have hz4 := HZ4.out
  have hs5 := hb5.size
  have HK := asks_any HP6 (by show c.out.length ≤ 90000; omega) hPB6 hI6 hT6 (hnot _ (by omega) (by omega)) (hnot _ (by omega) (by omega)) (hnot _ (by omega) (by omega)) (by omega) hn7
  have hn4 := hnot w.heap.size (Nat.le_refl _) (by omega)
  have HN4 := Lib.hid hn4
  have HO4 := Lib.hid hown4
  have HB46 := Lib.hid hb46
  have HPB6 := Lib.hid hPB6
  clear hz2 hz3 hz4 hs5 hnot hown4 hn4 hb46 hPB6 hI6 hT6 hb6 hb5 HP6 hpc5 c7 hpc
  refine HK.mono ?_
  rintro _ w7 ⟨rfl, ⟨m7, R7, hP7, hO7, hR7, hA7⟩, hJ7⟩
  have hpc7 : w7.cell? ⟨w.heap.size, 0, none⟩ = some (.pointer (some ⟨P, 0, none⟩)) := (HPB6.out.ag hA7 HN4.out).cell 0
  clear HK
  have hst : standP En.term noopE n id draw c = winP En.term noopE n id ((others n id).foldl (fun x s => sendP id x s { (lt0 1 : Lt En) with idx := (c.p.log.length : Int), was := termAt c.p.log c.p.log.length }) { c with p := { c.p with limit := 10 + draw.tmod 10 % 10, T := c.p.T + 1, V := id, role := 2, leader := 0, waited := 0, votes := [id] } }) := by
    rw [last_is, HLI.out]
    rfl
  generalize (others n id).foldl (fun x s => sendP id x s { (lt0 1 : Lt En) with idx := (c.p.log.length : Int), was := termAt c.p.log c.p.log.length }) { c with p := { c.p with limit := 10 + draw.tmod 10 % 10, T := c.p.T + 1, V := id, role := 2, leader := 0, waited := 0, votes := [id] } } = c7 at *
  have ho7 : c7.out.length ≤ 20000 + 7 := Nat.le_trans hJ7.out (Nat.add_le_add ho hq7)
  have HW := win_any hP7 ⟨by rw [hJ7.p]; exact hl.len, by rw [hJ7.p]; exact hl.dat, Nat.le_trans ho7 (by decide)⟩ (by rw [hJ7.p]; exact hlen) (Nat.le_trans ho7 (by decide)) (by rw [hJ7.p]) (by rw [hJ7.p]; simp) hi1 hi2 hn7
  have HST := Lib.hid hst
  have HO7 := Lib.hid hO7
  have HR7 := Lib.hid hR7
  have HA7 := Lib.hid hA7
  clear hst hJ7 hO7 hR7 hA7 hP7
  go_wp2_with fail
  refine HW.mono ?_
  rintro _ w8 ⟨rfl, hw8⟩
  clear HW
  go_wp2_with fail
  go_end0
  refine ⟨rfl, ?_⟩
  rw [HST.out]
  obtain ⟨m8, R8, hP8, hO8, hR8, hA8⟩ := Went.seq HO7.out HR7.out HA7.out hw8
  have hz2 := HZ2.out
  have hz3 := HZ3.out
  have hz4 := HZ4.out
  have hs46 := HB46.out.size
  have hs8 := hA8.size
  have g2 := HG2.out
  have g3 := HG3.out
  have g4 := HG4.out
  have b46 := HB46.out
  refine ⟨m8, R8, hP8, fun b hb => ?_, fun b hb => ?_, ⟨hA8.os.trans (b46.os.trans (g4.os.trans (g3.os.trans g2.os))), hA8.tape.trans (b46.tape.trans (g4.tape.trans (g3.tape.trans g2.tape))), hA8.output.trans (b46.output.trans (g4.output.trans (g3.output.trans g2.output))), by omega, fun b hb hno => ?_⟩⟩
  · rcases hO8 b hb with h1 | h1
    · exact (HO4.out b h1).imp (fun x => x) (fun e => by omega)
    · exact .inr (by omega)
  · exact (hR8 b hb).imp (fun x => x) (fun h1 => by omega)
  · have hbP : b ≠ P := fun e => hno (.inl e)
    refine (hA8.block b (by omega) (fun e => ?_)).trans ((b46.block b (by omega)).trans ((g4.block b (by omega) hbP).trans ((g3.block b (by omega) hbP).trans (g2.block b (by omega) hbP))))
    rcases HO4.out b e with e | e
    · exact hno e
    · omega
end
end Go.Proofs.Ythfofnfkopnbhaa

