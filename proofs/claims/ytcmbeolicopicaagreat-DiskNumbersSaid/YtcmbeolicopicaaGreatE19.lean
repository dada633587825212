/- disk: the law's step: Crash, Append. -/
import Derived.Test.YtcmbeolicopicaaGreatE18
namespace Go.Proofs.YtcmbeolicopicaaGreat
open Go.RowKit Go.Maps Go.ChangeMaps
set_option linter.unusedVariables false
set_option linter.unusedSectionVars false
set_option linter.unusedSimpArgs false
set_option maxRecDepth 100000

theorem bk_pre {w : World} {g : Nat} {l m : List Int} (h : Bk w g 5 (u8s (l ++ m))) (c : Nat) : Rd w (fun b => b = g) (some ⟨g, 0, none⟩) c (u8s l) := by
  refine ⟨(fun e => by cases e), fun _ => ⟨_, rfl, rfl, fun j u hu => ?_⟩⟩
  have hadd : (⟨g, 0, none⟩ : Addr).add j = ⟨g, j, none⟩ := by unfold Addr.add; split <;> simp_all
  have hj := (List.getElem?_eq_some_iff.1 hu).1
  rw [hadd, h.cell j, u8s_app, List.getElem?_append_left hj, hu]
section
variable {F : Nat → Prop} {D X gd gx n : Nat} {room : Int} {d : DoV} {A : Option Addr} {c : Nat} {d1 x1 : Value} {L : List FE} {w : World}
set_option maxHeartbeats 4000000 in
theorem step_crash (hp : pickI d.o 9 = 7) (h : Pr F D X room L L n w) (hr : Rws gd gx (.pointer (some ⟨D, 0, none⟩)) d1 (.pointer (some ⟨X, 0, none⟩)) x1 w) (hd : F gd) (hx : F gx) (ha : StA F d A c w) :
    Calls Tryz.prog 11 #[.slice (some ⟨gd, 0, none⟩) 2 2, .slice (some ⟨gx, 0, none⟩) 2 2, .agg #[.int .i64 d.o, nmV d.s, nmV d.t, .int .i64 d.k, .slice A d.u.length c]] w (StE F D X room (L.map (crF d.k)) n w) := by
  have hpk : ∀ W, Calls Tryz.prog 25 #[.int .i64 d.o, .int .i64 9] W fun e w' => e = .returned (.int .i64 7) ∧ W = w' := fun W => by
    have := pick_any d.o 9 W (by decide) (by decide)
    rw [hp] at this
    exact this
  have sd := Sd.start h hr hd hx ha
  have hlt := h.flt
  have hb1 : Below w.heap.size w (w.alloc (.cells #[.int .i64 d.o, nmV d.s, nmV d.t, .int .i64 d.k, .slice A d.u.length c] 31)) := (Below.refl _ _).alloc (Nat.le_refl _) _
  obtain ⟨_, hlen, hls, hlt2⟩ := ha
  have hb0 : (w.alloc (.cells #[.int .i64 d.o, nmV d.s, nmV d.t, .int .i64 d.k, .slice A d.u.length c] 31)).cell? ⟨w.heap.size, 0, none⟩ = some (.int .i64 d.o) := (box_cells sd.box).1
  have hpl := h.plain
  clear hp hr hd hx h
  unfold nmV at hb0 sd hb1
  unfold nmV
  go_enter Tryz.func11, Tryz.ntmps11
  go_wp2_with fail
  generalize (w.alloc (.cells #[.int .i64 d.o, .string ⟨d.s.toArray⟩, .string ⟨d.t.toArray⟩, .int .i64 d.k, .slice A d.u.length c] 31)) = w1 at *
  go_wp2_with fail
  (with_reducible refine (hpk _).mono ?_)
  rintro _ _ ⟨rfl, rfl⟩
  clear hb0
  go_wp2_with fail
  have sd0 := sd.below (Below.refl _ _).drew
  refine wp_region_held_drew (S := fun w' => w'.cell? ⟨gd, 0, none⟩ = some (.pointer (some ⟨D, 0, none⟩)) ∧ w'.cell? ⟨gx, 0, none⟩ = some (.pointer (some ⟨X, 0, none⟩)) ∧ w'.cell? ⟨w.heap.size, 1, none⟩ = some (.string ⟨d.s.toArray⟩) ∧ w'.cell? ⟨w.heap.size, 2, none⟩ = some (.string ⟨d.t.toArray⟩) ∧ w'.cell? ⟨w.heap.size, 3, none⟩ = some (.int .i64 d.k) ∧ w'.cell? ⟨w.heap.size, 4, none⟩ = some (.slice A d.u.length c)) (by kernel_rfl) sd0.cs (fun hS => ?_)
  refine wpAnyH_take (i := 0) (v := ?_) rfl (by kernel_rfl) (by kernel_rfl) (by kernel_rfl) (fun _ _ _ h => h) (Or.inl ⟨by rfl, ?_⟩) hS ?_
  rotate_left 1
  · intro w' hSw
    go_simp <;> with_reducible rfl
  try simp only [List.getElem_toArray, List.getElem_cons_zero, List.getElem_cons_succ, Act.put, List.setIfInBounds_toArray, List.set_cons_zero, List.set_cons_succ]
  refine wpAnyH_take (i := 1) (v := ?_) rfl (by kernel_rfl) (by kernel_rfl) (by kernel_rfl) (fun _ _ _ h => h) (Or.inl ⟨by rfl, ?_⟩) hS ?_
  rotate_left 1
  · intro w' hSw
    go_simp <;> with_reducible rfl
  try simp only [List.getElem_toArray, List.getElem_cons_zero, List.getElem_cons_succ, Act.put, List.setIfInBounds_toArray, List.set_cons_zero, List.set_cons_succ]
  refine wpAnyH_take (i := 2) (v := ?_) rfl (by kernel_rfl) (by kernel_rfl) (by kernel_rfl) (fun _ _ _ h => h) (Or.inl ⟨by rfl, ?_⟩) hS ?_
  rotate_left 1
  · intro w' hSw
    go_simp <;> with_reducible rfl
  try simp only [List.getElem_toArray, List.getElem_cons_zero, List.getElem_cons_succ, Act.put, List.setIfInBounds_toArray, List.set_cons_zero, List.set_cons_succ]
  refine wpAnyH_take (i := 3) (v := ?_) rfl (by kernel_rfl) (by kernel_rfl) (by kernel_rfl) (fun _ _ _ h => h) (Or.inl ⟨by rfl, ?_⟩) hS ?_
  rotate_left 1
  · intro w' hSw
    go_simp <;> with_reducible rfl
  try simp only [List.getElem_toArray, List.getElem_cons_zero, List.getElem_cons_succ, Act.put, List.setIfInBounds_toArray, List.set_cons_zero, List.set_cons_succ]
  refine wpAnyH_take (i := 4) (v := ?_) rfl (by kernel_rfl) (by kernel_rfl) (by kernel_rfl) (fun _ _ _ h => h) (Or.inl ⟨by rfl, ?_⟩) hS ?_
  rotate_left 1
  · intro w' hSw
    go_simp <;> with_reducible rfl
  try simp only [List.getElem_toArray, List.getElem_cons_zero, List.getElem_cons_succ, Act.put, List.setIfInBounds_toArray, List.set_cons_zero, List.set_cons_succ]
  refine wpAnyH_ready (rs := [5]) (by kernel_rfl) (by simp) (AllReadyH.cons rfl (fun K hK => ?_) AllReadyH.nil)
  go_simp
  have hcon := pr_rcrash sd0.two d.k sd0.two.plain.1
  unfold nmV at hcon
  (with_reducible refine hcon.mono ?_)
  rintro _ w2 ⟨rfl, q1, q2⟩
  have sd1 := sd0.step q1 q2
  clear q1 q2 hcon
  go_simp
  refine hK _ _ sd1.cs (fun hS => ?_)
  clear hK K
  try simp only [List.getElem_toArray, List.getElem_cons_zero, List.getElem_cons_succ, Act.put, List.setIfInBounds_toArray, List.set_cons_zero, List.set_cons_succ]
  refine wpAnyH_done (by kernel_rfl) ?_ _
  go_wp2_with fail
  have sd2 := sd1.below (Below.refl _ _).drew
  clear hS
  refine wp_region_held_drew (S := fun w' => w'.cell? ⟨gd, 0, none⟩ = some (.pointer (some ⟨D, 0, none⟩)) ∧ w'.cell? ⟨gx, 0, none⟩ = some (.pointer (some ⟨X, 0, none⟩)) ∧ w'.cell? ⟨w.heap.size, 1, none⟩ = some (.string ⟨d.s.toArray⟩) ∧ w'.cell? ⟨w.heap.size, 2, none⟩ = some (.string ⟨d.t.toArray⟩) ∧ w'.cell? ⟨w.heap.size, 3, none⟩ = some (.int .i64 d.k) ∧ w'.cell? ⟨w.heap.size, 4, none⟩ = some (.slice A d.u.length c)) (by kernel_rfl) sd2.cs (fun hS => ?_)
  refine wpAnyH_take (i := 0) (v := ?_) rfl (by kernel_rfl) (by kernel_rfl) (by kernel_rfl) (fun _ _ _ h => h) (Or.inl ⟨by rfl, ?_⟩) hS ?_
  rotate_left 1
  · intro w' hSw
    go_simp <;> with_reducible rfl
  try simp only [List.getElem_toArray, List.getElem_cons_zero, List.getElem_cons_succ, Act.put, List.setIfInBounds_toArray, List.set_cons_zero, List.set_cons_succ]
  refine wpAnyH_take (i := 1) (v := ?_) rfl (by kernel_rfl) (by kernel_rfl) (by kernel_rfl) (fun _ _ _ h => h) (Or.inl ⟨by rfl, ?_⟩) hS ?_
  rotate_left 1
  · intro w' hSw
    go_simp <;> with_reducible rfl
  try simp only [List.getElem_toArray, List.getElem_cons_zero, List.getElem_cons_succ, Act.put, List.setIfInBounds_toArray, List.set_cons_zero, List.set_cons_succ]
  refine wpAnyH_take (i := 2) (v := ?_) rfl (by kernel_rfl) (by kernel_rfl) (by kernel_rfl) (fun _ _ _ h => h) (Or.inl ⟨by rfl, ?_⟩) hS ?_
  rotate_left 1
  · intro w' hSw
    go_simp <;> with_reducible rfl
  try simp only [List.getElem_toArray, List.getElem_cons_zero, List.getElem_cons_succ, Act.put, List.setIfInBounds_toArray, List.set_cons_zero, List.set_cons_succ]
  refine wpAnyH_take (i := 3) (v := ?_) rfl (by kernel_rfl) (by kernel_rfl) (by kernel_rfl) (fun _ _ _ h => h) (Or.inl ⟨by rfl, ?_⟩) hS ?_
  rotate_left 1
  · intro w' hSw
    go_simp <;> with_reducible rfl
  try simp only [List.getElem_toArray, List.getElem_cons_zero, List.getElem_cons_succ, Act.put, List.setIfInBounds_toArray, List.set_cons_zero, List.set_cons_succ]
  refine wpAnyH_take (i := 4) (v := ?_) rfl (by kernel_rfl) (by kernel_rfl) (by kernel_rfl) (fun _ _ _ h => h) (Or.inl ⟨by rfl, ?_⟩) hS ?_
  rotate_left 1
  · intro w' hSw
    go_simp <;> with_reducible rfl
  try simp only [List.getElem_toArray, List.getElem_cons_zero, List.getElem_cons_succ, Act.put, List.setIfInBounds_toArray, List.set_cons_zero, List.set_cons_succ]
  refine wpAnyH_ready (rs := [5]) (by kernel_rfl) (by simp) (AllReadyH.cons rfl (fun K hK => ?_) AllReadyH.nil)
  go_simp
  have hcon := pr_crash sd2.two d.k
  unfold nmV at hcon
  (with_reducible refine hcon.mono ?_)
  rintro _ w3 ⟨rfl, q1, q2⟩
  have sd3 := sd2.step q1 q2
  clear q1 q2 hcon
  go_simp
  refine hK _ _ sd3.cs (fun hS => ?_)
  clear hK K
  try simp only [List.getElem_toArray, List.getElem_cons_zero, List.getElem_cons_succ, Act.put, List.setIfInBounds_toArray, List.set_cons_zero, List.set_cons_succ]
  refine wpAnyH_take (i := 6) (v := ?_) rfl (by kernel_rfl) (by kernel_rfl) (by kernel_rfl) (fun _ _ _ h => h) (Or.inl ⟨by rfl, ?_⟩) hS ?_
  rotate_left 1
  · intro w' hSw
    go_simp <;> with_reducible rfl
  try simp only [List.getElem_toArray, List.getElem_cons_zero, List.getElem_cons_succ, Act.put, List.setIfInBounds_toArray, List.set_cons_zero, List.set_cons_succ]
  refine wpAnyH_take (i := 7) (v := ?_) rfl (by kernel_rfl) (by kernel_rfl) (by kernel_rfl) (fun _ _ _ h => h) (Or.inl ⟨by rfl, ?_⟩) hS ?_
  rotate_left 1
  · intro w' hSw
    go_simp <;> with_reducible rfl
  try simp only [List.getElem_toArray, List.getElem_cons_zero, List.getElem_cons_succ, Act.put, List.setIfInBounds_toArray, List.set_cons_zero, List.set_cons_succ]
  refine wpAnyH_done (by kernel_rfl) ?_ _
  go_wp2_with fail
  go_ret
  exact sd3.stop rfl hb1 hlt
set_option maxHeartbeats 4000000 in
theorem step_append (hn2 : n + 1 + 1 ≤ 1000000) (hp : pickI d.o 9 < 3) (h : Pr F D X room L L n w) (hr : Rws gd gx (.pointer (some ⟨D, 0, none⟩)) d1 (.pointer (some ⟨X, 0, none⟩)) x1 w) (hd : F gd) (hx : F gx) (ha : StA F d A c w) :
    Calls Tryz.prog 11 #[.slice (some ⟨gd, 0, none⟩) 2 2, .slice (some ⟨gx, 0, none⟩) 2 2, .agg #[.int .i64 d.o, nmV d.s, nmV d.t, .int .i64 d.k, .slice A d.u.length c]] w (StE F D X room (appL room L d.s (bI d.u)) (n + 1) w) := by
  have hp0 := (pickI_range d.o 9 (by decide)).1
  have hn1 : n + 1 ≤ 1000000 := by omega
  obtain ⟨z, hz⟩ : ∃ z, Hid (z = pickI d.o 9) := ⟨_, Lib.hid rfl⟩
  rw [← hz.out] at hp hp0
  have z3 : (z == 3) = false := beq_eq_false_iff_ne.2 (by omega)
  have z4 : (z == 4) = false := beq_eq_false_iff_ne.2 (by omega)
  have z5 : (z == 5) = false := beq_eq_false_iff_ne.2 (by omega)
  have z6 : (z == 6) = false := beq_eq_false_iff_ne.2 (by omega)
  have z7 : (z == 7) = false := beq_eq_false_iff_ne.2 (by omega)
  have z8 : (z == 8) = false := beq_eq_false_iff_ne.2 (by omega)
  have hp := hz.out.symm
  have hpk : ∀ W, Calls Tryz.prog 25 #[.int .i64 d.o, .int .i64 9] W fun e w' => e = .returned (.int .i64 z) ∧ W = w' := fun W => by
    have := pick_any d.o 9 W (by decide) (by decide)
    rw [hp] at this
    exact this
  have sd := Sd.start h hr hd hx ha
  have hlt := h.flt
  have hb1 : Below w.heap.size w (w.alloc (.cells #[.int .i64 d.o, nmV d.s, nmV d.t, .int .i64 d.k, .slice A d.u.length c] 31)) := (Below.refl _ _).alloc (Nat.le_refl _) _
  obtain ⟨_, hlen, hls, hlt2⟩ := ha
  have hb0 : (w.alloc (.cells #[.int .i64 d.o, nmV d.s, nmV d.t, .int .i64 d.k, .slice A d.u.length c] 31)).cell? ⟨w.heap.size, 0, none⟩ = some (.int .i64 d.o) := (box_cells sd.box).1
  have hpl := h.plain
  have hb4 := (box_cells sd.box).2.2.2.2
  clear hp hr hd hx h
  unfold nmV at hb0 hb4 sd hb1
  unfold nmV
  go_enter Tryz.func11, Tryz.ntmps11
  go_wp2_with fail
  generalize (w.alloc (.cells #[.int .i64 d.o, .string ⟨d.s.toArray⟩, .string ⟨d.t.toArray⟩, .int .i64 d.k, .slice A d.u.length c] 31)) = w1 at *
  go_wp2_with fail
  (with_reducible refine (hpk _).mono ?_)
  rintro _ _ ⟨rfl, rfl⟩
  clear hb0
  go_wp2_with fail
  obtain ⟨KB, hKB, hrB⟩ := sd.arg.rd
  have hlent := lent_any KB A c (bI d.u) w1 hrB (fun b q => sd.two.flt b (hKB b q)) (by simp [bI]; omega)
  rw [bI_len] at hlent
  (with_reducible refine hlent.mono ?_)
  rintro _ w2 ⟨rfl, bg, hb2⟩
  clear hlent hb4
  have sdL := sd.below hb2
  have hg2 : Pr (fun j => (F j ∨ j = w.heap.size) ∨ j = w1.heap.size) D X room L L n w2 := sd.two.guard hb2 (fun j q => q.imp id (fun e => by have := bg.lt; omega))
  have sd2 : Sd (fun j => (F j ∨ j = w.heap.size) ∨ j = w1.heap.size) D X w.heap.size gd gx room d A c d1 x1 L L n w2 w2 := ⟨hg2, sdL.box, sdL.rws, ⟨sdL.arg.rd.elim fun K q => ⟨K, fun b k => .inl (q.1 b k), q.2⟩, sdL.arg.len, sdL.arg.ls, sdL.arg.lt⟩, .inl sdL.fV, .inl sdL.fd, .inl sdL.fx, Ag.refl _ _⟩
  have hgl : w1.heap.size < w2.heap.size := bg.lt
  have hE : ((appE room L d.s (bI d.u)) == (appE room L d.s (bI d.u))) = true := beq_self_eq_true _
  go_wp2_with fail
  have sd2d := sd2.below (Below.refl _ _).drew
  refine wp_region_held_drew (S := fun w' => w'.cell? ⟨gd, 0, none⟩ = some (.pointer (some ⟨D, 0, none⟩)) ∧ w'.cell? ⟨gx, 0, none⟩ = some (.pointer (some ⟨X, 0, none⟩)) ∧ w'.cell? ⟨w.heap.size, 1, none⟩ = some (.string ⟨d.s.toArray⟩) ∧ w'.cell? ⟨w.heap.size, 2, none⟩ = some (.string ⟨d.t.toArray⟩) ∧ w'.cell? ⟨w.heap.size, 3, none⟩ = some (.int .i64 d.k) ∧ w'.cell? ⟨w.heap.size, 4, none⟩ = some (.slice A d.u.length c)) (by kernel_rfl) sd2d.cs (fun hS => ?_)
  refine wpAnyH_take (i := 0) (v := ?_) rfl (by kernel_rfl) (by kernel_rfl) (by kernel_rfl) (fun _ _ _ h => h) (Or.inl ⟨by rfl, ?_⟩) hS ?_
  rotate_left 1
  · intro w' hSw
    go_simp <;> with_reducible rfl
  try simp only [List.getElem_toArray, List.getElem_cons_zero, List.getElem_cons_succ, Act.put, List.setIfInBounds_toArray, List.set_cons_zero, List.set_cons_succ]
  refine wpAnyH_take (i := 1) (v := ?_) rfl (by kernel_rfl) (by kernel_rfl) (by kernel_rfl) (fun _ _ _ h => h) (Or.inl ⟨by rfl, ?_⟩) hS ?_
  rotate_left 1
  · intro w' hSw
    go_simp <;> with_reducible rfl
  try simp only [List.getElem_toArray, List.getElem_cons_zero, List.getElem_cons_succ, Act.put, List.setIfInBounds_toArray, List.set_cons_zero, List.set_cons_succ]
  refine wpAnyH_take (i := 2) (v := ?_) rfl (by kernel_rfl) (by kernel_rfl) (by kernel_rfl) (fun _ _ _ h => h) (Or.inl ⟨by rfl, ?_⟩) hS ?_
  rotate_left 1
  · intro w' hSw
    go_simp <;> with_reducible rfl
  try simp only [List.getElem_toArray, List.getElem_cons_zero, List.getElem_cons_succ, Act.put, List.setIfInBounds_toArray, List.set_cons_zero, List.set_cons_succ]
  refine wpAnyH_take (i := 3) (v := ?_) rfl (by kernel_rfl) (by kernel_rfl) (by kernel_rfl) (fun _ _ _ h => h) (Or.inl ⟨by rfl, ?_⟩) hS ?_
  rotate_left 1
  · intro w' hSw
    go_simp <;> with_reducible rfl
  try simp only [List.getElem_toArray, List.getElem_cons_zero, List.getElem_cons_succ, Act.put, List.setIfInBounds_toArray, List.set_cons_zero, List.set_cons_succ]
  refine wpAnyH_take (i := 4) (v := ?_) rfl (by kernel_rfl) (by kernel_rfl) (by kernel_rfl) (fun _ _ _ h => h) (Or.inl ⟨by rfl, ?_⟩) hS ?_
  rotate_left 1
  · intro w' hSw
    go_simp <;> with_reducible rfl
  try simp only [List.getElem_toArray, List.getElem_cons_zero, List.getElem_cons_succ, Act.put, List.setIfInBounds_toArray, List.set_cons_zero, List.set_cons_succ]
  refine wpAnyH_take (i := 5) (v := ?_) rfl (by kernel_rfl) (by kernel_rfl) (by kernel_rfl) (fun _ _ _ h => h) (Or.inl ⟨by rfl, ?_⟩) hS ?_
  rotate_left 1
  · intro w' hSw
    go_simp <;> with_reducible rfl
  try simp only [List.getElem_toArray, List.getElem_cons_zero, List.getElem_cons_succ, Act.put, List.setIfInBounds_toArray, List.set_cons_zero, List.set_cons_succ]
  refine wpAnyH_take (i := 7) (v := ?_) rfl (by kernel_rfl) (by kernel_rfl) (by kernel_rfl) (fun _ _ _ h => h) (Or.inl ⟨by rfl, ?_⟩) hS ?_
  rotate_left 1
  · intro w' hSw
    go_simp <;> with_reducible rfl
  try simp only [List.getElem_toArray, List.getElem_cons_zero, List.getElem_cons_succ, Act.put, List.setIfInBounds_toArray, List.set_cons_zero, List.set_cons_succ]
  refine wpAnyH_take (i := 8) (v := ?_) rfl (by kernel_rfl) (by kernel_rfl) (by kernel_rfl) (fun _ _ _ h => h) (Or.inl ⟨by rfl, ?_⟩) hS ?_
  rotate_left 1
  · intro w' hSw
    go_simp <;> with_reducible rfl
  try simp only [List.getElem_toArray, List.getElem_cons_zero, List.getElem_cons_succ, Act.put, List.setIfInBounds_toArray, List.set_cons_zero, List.set_cons_succ]
  refine wpAnyH_take (i := 9) (v := ?_) rfl (by kernel_rfl) (by kernel_rfl) (by kernel_rfl) (fun _ _ _ h => h) (Or.inl ⟨by rfl, ?_⟩) hS ?_
  rotate_left 1
  · intro w' hSw
    go_simp <;> with_reducible rfl
  try simp only [List.getElem_toArray, List.getElem_cons_zero, List.getElem_cons_succ, Act.put, List.setIfInBounds_toArray, List.set_cons_zero, List.set_cons_succ]
  refine wpAnyH_take (i := 10) (v := ?_) rfl (by kernel_rfl) (by kernel_rfl) (by kernel_rfl) (fun _ _ _ h => h) (Or.inl ⟨by rfl, ?_⟩) hS ?_
  rotate_left 1
  · intro w' hSw
    go_simp <;> with_reducible rfl
  try simp only [List.getElem_toArray, List.getElem_cons_zero, List.getElem_cons_succ, Act.put, List.setIfInBounds_toArray, List.set_cons_zero, List.set_cons_succ]
  refine wpAnyH_take (i := 11) (v := ?_) rfl (by kernel_rfl) (by kernel_rfl) (by kernel_rfl) (fun _ _ _ h => h) (Or.inl ⟨by rfl, ?_⟩) hS ?_
  rotate_left 1
  · intro w' hSw
    go_simp <;> with_reducible rfl
  try simp only [List.getElem_toArray, List.getElem_cons_zero, List.getElem_cons_succ, Act.put, List.setIfInBounds_toArray, List.set_cons_zero, List.set_cons_succ]
  refine wpAnyH_take (i := 12) (v := ?_) rfl (by kernel_rfl) (by kernel_rfl) (by kernel_rfl) (fun _ _ _ h => h) (Or.inl ⟨by rfl, ?_⟩) hS ?_
  rotate_left 1
  · intro w' hSw
    go_simp <;> with_reducible rfl
  try simp only [List.getElem_toArray, List.getElem_cons_zero, List.getElem_cons_succ, Act.put, List.setIfInBounds_toArray, List.set_cons_zero, List.set_cons_succ]
  refine wpAnyH_take (i := 13) (v := ?_) rfl (by kernel_rfl) (by kernel_rfl) (by kernel_rfl) (fun _ _ _ h => h) (Or.inl ⟨by rfl, ?_⟩) hS ?_
  rotate_left 1
  · intro w' hSw
    go_simp <;> with_reducible rfl
  try simp only [List.getElem_toArray, List.getElem_cons_zero, List.getElem_cons_succ, Act.put, List.setIfInBounds_toArray, List.set_cons_zero, List.set_cons_succ]
  refine wpAnyH_ready (rs := [6]) (by kernel_rfl) (by simp) (AllReadyH.cons rfl (fun K hK => ?_) AllReadyH.nil)
  go_simp
  have hrd3 : Rd w2.drew (fun b => b = w1.heap.size) (some ⟨w1.heap.size, 0, none⟩) (d.u.length + 12) (u8s (bI d.u)) := bk_pre bg.drew _
  have hcon := pr_append sd2d.two d.s (by omega) (some ⟨w1.heap.size, 0, none⟩) (d.u.length + 12) (bI d.u) hrd3 (fun k e => by subst e; exact hgl) (by rw [bI_len]; omega) hn1
  rw [bI_len] at hcon
  unfold nmV at hcon
  (with_reducible refine hcon.mono ?_)
  rintro _ w3 ⟨rfl, q1, q2⟩
  have sd3 := sd2d.step q1 q2
  clear q1 q2 hcon hrd3
  go_simp
  refine hK _ _ sd3.cs (fun hS => ?_)
  clear hK K
  try simp only [List.getElem_toArray, List.getElem_cons_zero, List.getElem_cons_succ, Act.put, List.setIfInBounds_toArray, List.set_cons_zero, List.set_cons_succ]
  refine wpAnyH_ready (rs := [14]) (by kernel_rfl) (by simp) (AllReadyH.cons rfl (fun K hK => ?_) AllReadyH.nil)
  go_simp
  obtain ⟨KC, hKC, hrC⟩ := sd3.arg.rd
  have hcon := pr_rappend sd3.two d.s (by omega) A c (bI d.u) hrC (fun b q => sd3.two.flt b (hKC b q)) (by rw [bI_len]; omega) sd3.two.plain.1 hn2
  rw [bI_len] at hcon
  unfold nmV at hcon
  (with_reducible refine hcon.mono ?_)
  rintro _ w4 ⟨rfl, q1, q2⟩
  have sd4 := sd3.step q1 q2
  clear q1 q2 hcon
  go_simp
  refine hK _ _ sd4.cs (fun hS => ?_)
  clear hK K
  try simp only [List.getElem_toArray, List.getElem_cons_zero, List.getElem_cons_succ, Act.put, List.setIfInBounds_toArray, List.set_cons_zero, List.set_cons_succ]
  refine wpAnyH_take (i := 15) (v := ?_) rfl (by kernel_rfl) (by kernel_rfl) (by kernel_rfl) (fun _ _ _ h => h) (Or.inl ⟨by rfl, ?_⟩) hS ?_
  rotate_left 1
  · intro w' hSw
    go_simp <;> with_reducible rfl
  try simp only [List.getElem_toArray, List.getElem_cons_zero, List.getElem_cons_succ, Act.put, List.setIfInBounds_toArray, List.set_cons_zero, List.set_cons_succ]
  refine wpAnyH_take (i := 16) (v := ?_) rfl (by kernel_rfl) (by kernel_rfl) (by kernel_rfl) (fun _ _ _ h => h) (Or.inl ⟨by rfl, ?_⟩) hS ?_
  rotate_left 1
  · intro w' hSw
    go_simp <;> with_reducible rfl
  try simp only [List.getElem_toArray, List.getElem_cons_zero, List.getElem_cons_succ, Act.put, List.setIfInBounds_toArray, List.set_cons_zero, List.set_cons_succ]
  refine wpAnyH_take (i := 17) (v := ?_) rfl (by kernel_rfl) (by kernel_rfl) (by kernel_rfl) (fun _ _ _ h => h) (Or.inl ⟨by go_simp, ?_⟩) hS ?_
  rotate_left 1
  · intro w' hSw
    go_simp <;> with_reducible rfl
  try simp only [List.getElem_toArray, List.getElem_cons_zero, List.getElem_cons_succ, Act.put, List.setIfInBounds_toArray, List.set_cons_zero, List.set_cons_succ]
  refine wpAnyH_take (i := 18) (v := ?_) rfl (by kernel_rfl) (by kernel_rfl) (by kernel_rfl) (fun _ _ _ h => h) (Or.inl ⟨by go_simp, ?_⟩) hS ?_
  rotate_left 1
  · intro w' hSw
    go_simp <;> with_reducible rfl
  try simp only [List.getElem_toArray, List.getElem_cons_zero, List.getElem_cons_succ, Act.put, List.setIfInBounds_toArray, List.set_cons_zero, List.set_cons_succ]
  refine wpAnyH_take (i := 19) (v := ?_) rfl (by kernel_rfl) (by kernel_rfl) (by kernel_rfl) (fun _ _ _ h => h) (Or.inl ⟨by go_simp, ?_⟩) hS ?_
  rotate_left 1
  · intro w' hSw
    go_simp <;> with_reducible rfl
  try simp only [List.getElem_toArray, List.getElem_cons_zero, List.getElem_cons_succ, Act.put, List.setIfInBounds_toArray, List.set_cons_zero, List.set_cons_succ]
  refine wpAnyH_ready (rs := [20]) (by kernel_rfl) (by simp) (AllReadyH.cons rfl (fun K hK => ?_) AllReadyH.nil)
  go_simp
  obtain ⟨KE, hKE, hrE⟩ := sd4.arg.rd
  have bg4 : Bk w4 w1.heap.size 5 (u8s (bI d.u ++ marks 12)) := (sd4.ag.block _ hgl (.inr rfl)).trans bg
  have hcon := kept_any w1.heap.size d.u.length A c (bI d.u ++ marks 12) (bI d.u) w4 bg4 KE hrE (by simp) (by simp; omega) (by omega)
  rw [bI_len, decide_eq_true (rfl : bI d.u ++ marks 12 = bI d.u ++ marks 12)] at hcon
  (with_reducible refine hcon.mono ?_)
  rintro _ w5 ⟨rfl, kq, rfl⟩
  have sd5 := sd4.below (below_drewK w4 kq)
  have bg5 : Bk (w4.drewN kq) w1.heap.size 5 (u8s (bI d.u ++ marks 12)) := bg4
  clear hcon
  go_simp
  refine hK _ _ sd5.cs (fun hS => ?_)
  clear hK K
  generalize w4.drewN kq = w5 at *
  try simp only [List.getElem_toArray, List.getElem_cons_zero, List.getElem_cons_succ, Act.put, List.setIfInBounds_toArray, List.set_cons_zero, List.set_cons_succ]
  refine wpAnyH_take (i := 21) (v := ?_) rfl (by kernel_rfl) (by kernel_rfl) (by kernel_rfl) (fun _ _ _ h => h) (Or.inl ⟨by rfl, ?_⟩) hS ?_
  rotate_left 1
  · intro w' hSw
    go_simp <;> with_reducible rfl
  try simp only [List.getElem_toArray, List.getElem_cons_zero, List.getElem_cons_succ, Act.put, List.setIfInBounds_toArray, List.set_cons_zero, List.set_cons_succ]
  refine wpAnyH_take (i := 22) (v := ?_) rfl (by kernel_rfl) (by kernel_rfl) (by kernel_rfl) (fun _ _ _ h => h) (Or.inl ⟨by rfl, ?_⟩) hS ?_
  rotate_left 1
  · intro w' hSw
    go_simp <;> with_reducible rfl
  try simp only [List.getElem_toArray, List.getElem_cons_zero, List.getElem_cons_succ, Act.put, List.setIfInBounds_toArray, List.set_cons_zero, List.set_cons_succ]
  refine wpAnyH_done (by kernel_rfl) ?_ _
  go_wp2_with fail
  have hover := OverBytes_any w1.heap.size d.u.length _ w5 bg5 (by simp [marks]) (by omega)
  (with_reducible refine hover.mono ?_)
  rintro _ w6 ⟨⟨r, rfl⟩, _, hag⟩
  clear hover
  go_wp2_with fail
  go_ret
  have hF6 : Pr (fun j => (F j ∨ j = w.heap.size) ∨ j = w1.heap.size) D X room (appL room L d.s (bI d.u)) (appL room L d.s (bI d.u)) (n + 1) w6 := sd5.two.other hag.size (fun j j1 j2 => hag.block j j1 (fun e => j2 (.inr e)))
  refine ⟨rfl, hF6.guard (Below.refl _ _) (fun j q => .inl (.inl (.inl q))), ?_⟩
  have h1 : Ag F w w2 := (Ag.of_below F hb1).trans (Ag.of_below F hb2)
  exact h1.trans ((sd5.ag.mono fun k _ q => .inl (.inl q)).trans (hag.mono fun k _ q e => by have := hlt k q; have := hb1.size; omega))
end
end Go.Proofs.YtcmbeolicopicaaGreat

