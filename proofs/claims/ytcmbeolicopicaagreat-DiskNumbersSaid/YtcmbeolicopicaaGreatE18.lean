/- disk: the law's step. -/
import Derived.Test.YtcmbeolicopicaaGreatE17
namespace Go.Proofs.YtcmbeolicopicaaGreat
open Go.RowKit Go.Maps Go.ChangeMaps
set_option linter.unusedVariables false
set_option linter.unusedSectionVars false
set_option linter.unusedSimpArgs false
set_option maxRecDepth 100000

theorem box_cells {w : World} {D : Nat} {d : DoV} {A : Option Addr} {c : Nat} (h : Bk w D 31 (doC d A c)) :
    w.cell? ⟨D, 0, none⟩ = some (.int .i64 d.o) ∧ w.cell? ⟨D, 1, none⟩ = some (nmV d.s) ∧ w.cell? ⟨D, 2, none⟩ = some (nmV d.t) ∧ w.cell? ⟨D, 3, none⟩ = some (.int .i64 d.k) ∧ w.cell? ⟨D, 4, none⟩ = some (.slice A d.u.length c) := by
  have h0 := h.cell 0
  have h1 := h.cell 1
  have h2 := h.cell 2
  have h3 := h.cell 3
  have h4 := h.cell 4
  exact ⟨h0, h1, h2, h3, h4⟩
/-- The law's two rows of disks: these stand first, those second. -/
structure Rws (gd gx : Nat) (d0 d1 x0 x1 : Value) (w : World) : Prop where
  d : Bk w gd 23 [d0, d1]
  x : Bk w gx 26 [x0, x1]
theorem Rws.keep {gd gx : Nat} {d0 d1 x0 x1 : Value} {w w' : World} (h : Rws gd gx d0 d1 x0 x1 w) (h1 : w'.heap[gd]? = w.heap[gd]?) (h2 : w'.heap[gx]? = w.heap[gx]?) : Rws gd gx d0 d1 x0 x1 w' := ⟨h1.trans h.d, h2.trans h.x⟩
theorem Rws.cells {gd gx : Nat} {d0 d1 x0 x1 : Value} {w : World} (h : Rws gd gx d0 d1 x0 x1 w) : w.cell? ⟨gd, 0, none⟩ = some d0 ∧ w.cell? ⟨gd, 1, none⟩ = some d1 ∧ w.cell? ⟨gx, 0, none⟩ = some x0 ∧ w.cell? ⟨gx, 1, none⟩ = some x1 :=
  ⟨h.d.cell 0, h.d.cell 1, h.x.cell 0, h.x.cell 1⟩
/-- A step that came in, and its bytes, in memory of F. -/
structure StA (F : Nat → Prop) (d : DoV) (A : Option Addr) (c : Nat) (w : World) : Prop where
  rd : ∃ KA : Nat → Prop, (∀ b, KA b → F b) ∧ Rd w KA A c (u8s (bI d.u))
  len : d.u.length ≤ 400
  ls : d.s.length ≤ 100
  lt : d.t.length ≤ 100
theorem StA.ag {F : Nat → Prop} {d : DoV} {A : Option Addr} {c : Nat} {w w' : World} (h : StA F d A c w) (ha : Ag F w w') (hlt : ∀ j, F j → j < w.heap.size) : StA F d A c w' := by
  obtain ⟨KA, h1, h2⟩ := h.rd
  exact ⟨⟨KA, h1, h2.keep (fun b q => ha.block b (hlt b (h1 b q)) (h1 b q)) (fun _ q => q)⟩, h.len, h.ls, h.lt⟩
/-- Within a step: its own variable lies at V; the rows at gd, gx. -/
structure Sd (F : Nat → Prop) (D X V gd gx : Nat) (room : Int) (d : DoV) (A : Option Addr) (c : Nat) (d1 x1 : Value) (L L2 : List FE) (n : Nat) (w0 w : World) : Prop where
  two : Pr F D X room L L2 n w
  box : Bk w V 31 (doC d A c)
  rws : Rws gd gx (.pointer (some ⟨D, 0, none⟩)) d1 (.pointer (some ⟨X, 0, none⟩)) x1 w
  arg : StA F d A c w
  fV : F V
  fd : F gd
  fx : F gx
  ag : Ag F w0 w
/-- What its loads read. -/
def SdC (D X V gd gx : Nat) (d : DoV) (A : Option Addr) (c : Nat) (w : World) : Prop := w.cell? ⟨gd, 0, none⟩ = some (.pointer (some ⟨D, 0, none⟩)) ∧ w.cell? ⟨gx, 0, none⟩ = some (.pointer (some ⟨X, 0, none⟩)) ∧ w.cell? ⟨V, 1, none⟩ = some (.string ⟨d.s.toArray⟩) ∧ w.cell? ⟨V, 2, none⟩ = some (.string ⟨d.t.toArray⟩) ∧ w.cell? ⟨V, 3, none⟩ = some (.int .i64 d.k) ∧ w.cell? ⟨V, 4, none⟩ = some (.slice A d.u.length c)
section
variable {F : Nat → Prop} {D X V gd gx n n' : Nat} {room : Int} {d : DoV} {A : Option Addr} {c : Nat} {d1 x1 : Value} {L L2 L' L2' : List FE} {w0 w w' : World}
theorem Sd.step (h : Sd F D X V gd gx room d A c d1 x1 L L2 n w0 w) (h2 : Pr F D X room L' L2' n' w') (ha : Ag F w w') : Sd F D X V gd gx room d A c d1 x1 L' L2' n' w0 w' :=
  have hf := h.two.flt
  ⟨h2, (ha.block V (hf V h.fV) h.fV).trans h.box, h.rws.keep (ha.block gd (hf gd h.fd) h.fd) (ha.block gx (hf gx h.fx) h.fx), h.arg.ag ha hf, h.fV, h.fd, h.fx, h.ag.trans (ha.mono fun k hk q => q)⟩
theorem Sd.below (h : Sd F D X V gd gx room d A c d1 x1 L L2 n w0 w) (hb : Below w.heap.size w w') : Sd F D X V gd gx room d A c d1 x1 L L2 n w0 w' := h.step (h.two.below hb) (Ag.of_below F hb)
theorem Sd.cs (h : Sd F D X V gd gx room d A c d1 x1 L L2 n w0 w) : SdC D X V gd gx d A c w := by
  obtain ⟨b0, b1, b2, b3, b4⟩ := box_cells h.box
  obtain ⟨r0, r1, r2, r3⟩ := h.rws.cells
  exact ⟨r0, r2, b1, b2, b3, b4⟩
theorem Sd.start {gd gx : Nat} (h : Pr F D X room L L2 n w) (hr : Rws gd gx (.pointer (some ⟨D, 0, none⟩)) d1 (.pointer (some ⟨X, 0, none⟩)) x1 w) (hd : F gd) (hx : F gx) (ha : StA F d A c w) :
    Sd (fun j => F j ∨ j = w.heap.size) D X w.heap.size gd gx room d A c d1 x1 L L2 n (w.alloc (.cells #[.int .i64 d.o, nmV d.s, nmV d.t, .int .i64 d.k, .slice A d.u.length c] 31)) (w.alloc (.cells #[.int .i64 d.o, nmV d.s, nmV d.t, .int .i64 d.k, .slice A d.u.length c] 31)) := by
  have hb : Below w.heap.size w (w.alloc (.cells #[.int .i64 d.o, nmV d.s, nmV d.t, .int .i64 d.k, .slice A d.u.length c] 31)) := (Below.refl _ _).alloc (Nat.le_refl _) _
  obtain ⟨KA, h1, h2⟩ := ha.rd
  refine ⟨h.guard hb fun j q => q.imp id (fun e => by rw [World.size_alloc]; omega), Bk.new w _ _, hr.keep (hb.block gd (h.flt gd hd)) (hb.block gx (h.flt gx hx)), ⟨⟨KA, fun b q => .inl (h1 b q), h2.keep (fun b q => hb.block b (h.flt b (h1 b q))) (fun _ q => q)⟩, ha.len, ha.ls, ha.lt⟩, .inr rfl, .inl hd, .inl hx, Ag.refl _ _⟩
end
/-- What a step ends with that makes no copy. -/
def StE (F : Nat → Prop) (D X : Nat) (room : Int) (L : List FE) (n : Nat) (w : World) (e : Ending) (w' : World) : Prop := e = .returned (.bool true) ∧ Pr F D X room L L n w' ∧ Ag F w w'
theorem Sd.stop {F : Nat → Prop} {D X gd gx n : Nat} {room : Int} {d : DoV} {A : Option Addr} {c : Nat} {d1 x1 : Value} {L : List FE} {w w1 w' : World} {e : Ending} (h : Sd (fun j => F j ∨ j = w.heap.size) D X w.heap.size gd gx room d A c d1 x1 L L n w1 w') (he : e = .returned (.bool true)) (hb : Below w.heap.size w w1) (hF : ∀ j, F j → j < w.heap.size) : StE F D X room L n w e w' :=
  ⟨he, h.two.guard (Below.refl _ _) (fun j q => .inl (.inl q)), (Ag.of_below F hb).trans (h.ag.mono fun k _ q => .inl q)⟩
section
variable {F : Nat → Prop} {D X gd gx n : Nat} {room : Int} {d : DoV} {A : Option Addr} {c : Nat} {d1 x1 : Value} {L : List FE} {w : World}
set_option maxHeartbeats 4000000 in
theorem step_sync (hp : pickI d.o 9 = 3) (h : Pr F D X room L L n w) (hr : Rws gd gx (.pointer (some ⟨D, 0, none⟩)) d1 (.pointer (some ⟨X, 0, none⟩)) x1 w) (hd : F gd) (hx : F gx) (ha : StA F d A c w) :
    Calls Tryz.prog 11 #[.slice (some ⟨gd, 0, none⟩) 2 2, .slice (some ⟨gx, 0, none⟩) 2 2, .agg #[.int .i64 d.o, nmV d.s, nmV d.t, .int .i64 d.k, .slice A d.u.length c]] w (StE F D X room (synL L d.s) n w) := by
  have hpk : ∀ W, Calls Tryz.prog 25 #[.int .i64 d.o, .int .i64 9] W fun e w' => e = .returned (.int .i64 3) ∧ W = w' := fun W => by
    have := pick_any d.o 9 W (by decide) (by decide)
    rw [hp] at this
    exact this
  have sd := Sd.start h hr hd hx ha
  have hlt := h.flt
  have hb1 : Below w.heap.size w (w.alloc (.cells #[.int .i64 d.o, nmV d.s, nmV d.t, .int .i64 d.k, .slice A d.u.length c] 31)) := (Below.refl _ _).alloc (Nat.le_refl _) _
  obtain ⟨_, hlen, hls, hlt2⟩ := ha
  have hb0 : (w.alloc (.cells #[.int .i64 d.o, nmV d.s, nmV d.t, .int .i64 d.k, .slice A d.u.length c] 31)).cell? ⟨w.heap.size, 0, none⟩ = some (.int .i64 d.o) := (box_cells sd.box).1
  have hpl := h.plain
  clear hp hr hd hx h
  unfold nmV at hb0 sd hb1
  unfold nmV
  go_enter Tryz.func11, Tryz.ntmps11
  go_wp2_with fail
  generalize (w.alloc (.cells #[.int .i64 d.o, .string ⟨d.s.toArray⟩, .string ⟨d.t.toArray⟩, .int .i64 d.k, .slice A d.u.length c] 31)) = w1 at *
  go_wp2_with fail
  (with_reducible refine (hpk _).mono ?_)
  rintro _ _ ⟨rfl, rfl⟩
  clear hb0
  go_wp2_with fail
  have hE : ((synE L d.s) == (synE L d.s)) = true := beq_self_eq_true _
  have sd0 := sd.below (Below.refl _ _).drew
  refine wp_region_held_drew (S := fun w' => w'.cell? ⟨gd, 0, none⟩ = some (.pointer (some ⟨D, 0, none⟩)) ∧ w'.cell? ⟨gx, 0, none⟩ = some (.pointer (some ⟨X, 0, none⟩)) ∧ w'.cell? ⟨w.heap.size, 1, none⟩ = some (.string ⟨d.s.toArray⟩) ∧ w'.cell? ⟨w.heap.size, 2, none⟩ = some (.string ⟨d.t.toArray⟩) ∧ w'.cell? ⟨w.heap.size, 3, none⟩ = some (.int .i64 d.k) ∧ w'.cell? ⟨w.heap.size, 4, none⟩ = some (.slice A d.u.length c)) (by kernel_rfl) sd0.cs (fun hS => ?_)
  refine wpAnyH_take (i := 0) (v := ?_) rfl (by kernel_rfl) (by kernel_rfl) (by kernel_rfl) (fun _ _ _ h => h) (Or.inl ⟨by rfl, ?_⟩) hS ?_
  rotate_left 1
  · intro w' hSw
    go_simp <;> with_reducible rfl
  try simp only [List.getElem_toArray, List.getElem_cons_zero, List.getElem_cons_succ, Act.put, List.setIfInBounds_toArray, List.set_cons_zero, List.set_cons_succ]
  refine wpAnyH_take (i := 1) (v := ?_) rfl (by kernel_rfl) (by kernel_rfl) (by kernel_rfl) (fun _ _ _ h => h) (Or.inl ⟨by rfl, ?_⟩) hS ?_
  rotate_left 1
  · intro w' hSw
    go_simp <;> with_reducible rfl
  try simp only [List.getElem_toArray, List.getElem_cons_zero, List.getElem_cons_succ, Act.put, List.setIfInBounds_toArray, List.set_cons_zero, List.set_cons_succ]
  refine wpAnyH_take (i := 2) (v := ?_) rfl (by kernel_rfl) (by kernel_rfl) (by kernel_rfl) (fun _ _ _ h => h) (Or.inl ⟨by rfl, ?_⟩) hS ?_
  rotate_left 1
  · intro w' hSw
    go_simp <;> with_reducible rfl
  try simp only [List.getElem_toArray, List.getElem_cons_zero, List.getElem_cons_succ, Act.put, List.setIfInBounds_toArray, List.set_cons_zero, List.set_cons_succ]
  refine wpAnyH_take (i := 3) (v := ?_) rfl (by kernel_rfl) (by kernel_rfl) (by kernel_rfl) (fun _ _ _ h => h) (Or.inl ⟨by rfl, ?_⟩) hS ?_
  rotate_left 1
  · intro w' hSw
    go_simp <;> with_reducible rfl
  try simp only [List.getElem_toArray, List.getElem_cons_zero, List.getElem_cons_succ, Act.put, List.setIfInBounds_toArray, List.set_cons_zero, List.set_cons_succ]
  refine wpAnyH_take (i := 4) (v := ?_) rfl (by kernel_rfl) (by kernel_rfl) (by kernel_rfl) (fun _ _ _ h => h) (Or.inl ⟨by rfl, ?_⟩) hS ?_
  rotate_left 1
  · intro w' hSw
    go_simp <;> with_reducible rfl
  try simp only [List.getElem_toArray, List.getElem_cons_zero, List.getElem_cons_succ, Act.put, List.setIfInBounds_toArray, List.set_cons_zero, List.set_cons_succ]
  refine wpAnyH_take (i := 6) (v := ?_) rfl (by kernel_rfl) (by kernel_rfl) (by kernel_rfl) (fun _ _ _ h => h) (Or.inl ⟨by rfl, ?_⟩) hS ?_
  rotate_left 1
  · intro w' hSw
    go_simp <;> with_reducible rfl
  try simp only [List.getElem_toArray, List.getElem_cons_zero, List.getElem_cons_succ, Act.put, List.setIfInBounds_toArray, List.set_cons_zero, List.set_cons_succ]
  refine wpAnyH_take (i := 7) (v := ?_) rfl (by kernel_rfl) (by kernel_rfl) (by kernel_rfl) (fun _ _ _ h => h) (Or.inl ⟨by rfl, ?_⟩) hS ?_
  rotate_left 1
  · intro w' hSw
    go_simp <;> with_reducible rfl
  try simp only [List.getElem_toArray, List.getElem_cons_zero, List.getElem_cons_succ, Act.put, List.setIfInBounds_toArray, List.set_cons_zero, List.set_cons_succ]
  refine wpAnyH_take (i := 8) (v := ?_) rfl (by kernel_rfl) (by kernel_rfl) (by kernel_rfl) (fun _ _ _ h => h) (Or.inl ⟨by rfl, ?_⟩) hS ?_
  rotate_left 1
  · intro w' hSw
    go_simp <;> with_reducible rfl
  try simp only [List.getElem_toArray, List.getElem_cons_zero, List.getElem_cons_succ, Act.put, List.setIfInBounds_toArray, List.set_cons_zero, List.set_cons_succ]
  refine wpAnyH_take (i := 9) (v := ?_) rfl (by kernel_rfl) (by kernel_rfl) (by kernel_rfl) (fun _ _ _ h => h) (Or.inl ⟨by rfl, ?_⟩) hS ?_
  rotate_left 1
  · intro w' hSw
    go_simp <;> with_reducible rfl
  try simp only [List.getElem_toArray, List.getElem_cons_zero, List.getElem_cons_succ, Act.put, List.setIfInBounds_toArray, List.set_cons_zero, List.set_cons_succ]
  refine wpAnyH_take (i := 10) (v := ?_) rfl (by kernel_rfl) (by kernel_rfl) (by kernel_rfl) (fun _ _ _ h => h) (Or.inl ⟨by rfl, ?_⟩) hS ?_
  rotate_left 1
  · intro w' hSw
    go_simp <;> with_reducible rfl
  try simp only [List.getElem_toArray, List.getElem_cons_zero, List.getElem_cons_succ, Act.put, List.setIfInBounds_toArray, List.set_cons_zero, List.set_cons_succ]
  refine wpAnyH_ready (rs := [5]) (by kernel_rfl) (by simp) (AllReadyH.cons rfl (fun K hK => ?_) AllReadyH.nil)
  go_simp
  have hcon := pr_sync sd0.two d.s (by omega)
  unfold nmV at hcon
  (with_reducible refine hcon.mono ?_)
  rintro _ w2 ⟨rfl, q1, q2⟩
  have sd1 := sd0.step q1 q2
  clear q1 q2 hcon
  go_simp
  refine hK _ _ sd1.cs (fun hS => ?_)
  clear hK K
  try simp only [List.getElem_toArray, List.getElem_cons_zero, List.getElem_cons_succ, Act.put, List.setIfInBounds_toArray, List.set_cons_zero, List.set_cons_succ]
  refine wpAnyH_ready (rs := [11]) (by kernel_rfl) (by simp) (AllReadyH.cons rfl (fun K hK => ?_) AllReadyH.nil)
  go_simp
  have hcon := pr_rsync sd1.two d.s sd1.two.plain.1
  unfold nmV at hcon
  (with_reducible refine hcon.mono ?_)
  rintro _ w3 ⟨rfl, q1, q2⟩
  have sd2 := sd1.step q1 q2
  clear q1 q2 hcon
  go_simp
  refine hK _ _ sd2.cs (fun hS => ?_)
  clear hK K
  try simp only [List.getElem_toArray, List.getElem_cons_zero, List.getElem_cons_succ, Act.put, List.setIfInBounds_toArray, List.set_cons_zero, List.set_cons_succ]
  refine wpAnyH_take (i := 12) (v := ?_) rfl (by kernel_rfl) (by kernel_rfl) (by kernel_rfl) (fun _ _ _ h => h) (Or.inl ⟨by rfl, ?_⟩) hS ?_
  rotate_left 1
  · intro w' hSw
    go_simp <;> with_reducible rfl
  try simp only [List.getElem_toArray, List.getElem_cons_zero, List.getElem_cons_succ, Act.put, List.setIfInBounds_toArray, List.set_cons_zero, List.set_cons_succ]
  refine wpAnyH_take (i := 13) (v := ?_) rfl (by kernel_rfl) (by kernel_rfl) (by kernel_rfl) (fun _ _ _ h => h) (Or.inl ⟨by rfl, ?_⟩) hS ?_
  rotate_left 1
  · intro w' hSw
    go_simp <;> with_reducible rfl
  try simp only [List.getElem_toArray, List.getElem_cons_zero, List.getElem_cons_succ, Act.put, List.setIfInBounds_toArray, List.set_cons_zero, List.set_cons_succ]
  refine wpAnyH_done (by kernel_rfl) ?_ _
  go_wp2_with fail
  go_ret
  exact sd2.stop rfl hb1 hlt
set_option maxHeartbeats 4000000 in
theorem step_cut (hp : pickI d.o 9 = 4) (h : Pr F D X room L L n w) (hr : Rws gd gx (.pointer (some ⟨D, 0, none⟩)) d1 (.pointer (some ⟨X, 0, none⟩)) x1 w) (hd : F gd) (hx : F gx) (ha : StA F d A c w) :
    Calls Tryz.prog 11 #[.slice (some ⟨gd, 0, none⟩) 2 2, .slice (some ⟨gx, 0, none⟩) 2 2, .agg #[.int .i64 d.o, nmV d.s, nmV d.t, .int .i64 d.k, .slice A d.u.length c]] w (StE F D X room (cutL L d.s d.k) n w) := by
  have hpk : ∀ W, Calls Tryz.prog 25 #[.int .i64 d.o, .int .i64 9] W fun e w' => e = .returned (.int .i64 4) ∧ W = w' := fun W => by
    have := pick_any d.o 9 W (by decide) (by decide)
    rw [hp] at this
    exact this
  have sd := Sd.start h hr hd hx ha
  have hlt := h.flt
  have hb1 : Below w.heap.size w (w.alloc (.cells #[.int .i64 d.o, nmV d.s, nmV d.t, .int .i64 d.k, .slice A d.u.length c] 31)) := (Below.refl _ _).alloc (Nat.le_refl _) _
  obtain ⟨_, hlen, hls, hlt2⟩ := ha
  have hb0 : (w.alloc (.cells #[.int .i64 d.o, nmV d.s, nmV d.t, .int .i64 d.k, .slice A d.u.length c] 31)).cell? ⟨w.heap.size, 0, none⟩ = some (.int .i64 d.o) := (box_cells sd.box).1
  have hpl := h.plain
  clear hp hr hd hx h
  unfold nmV at hb0 sd hb1
  unfold nmV
  go_enter Tryz.func11, Tryz.ntmps11
  go_wp2_with fail
  generalize (w.alloc (.cells #[.int .i64 d.o, .string ⟨d.s.toArray⟩, .string ⟨d.t.toArray⟩, .int .i64 d.k, .slice A d.u.length c] 31)) = w1 at *
  go_wp2_with fail
  (with_reducible refine (hpk _).mono ?_)
  rintro _ _ ⟨rfl, rfl⟩
  clear hb0
  go_wp2_with fail
  have hE : ((cutE L d.s d.k) == (cutE L d.s d.k)) = true := beq_self_eq_true _
  have sd0 := sd.below (Below.refl _ _).drew
  refine wp_region_held_drew (S := fun w' => w'.cell? ⟨gd, 0, none⟩ = some (.pointer (some ⟨D, 0, none⟩)) ∧ w'.cell? ⟨gx, 0, none⟩ = some (.pointer (some ⟨X, 0, none⟩)) ∧ w'.cell? ⟨w.heap.size, 1, none⟩ = some (.string ⟨d.s.toArray⟩) ∧ w'.cell? ⟨w.heap.size, 2, none⟩ = some (.string ⟨d.t.toArray⟩) ∧ w'.cell? ⟨w.heap.size, 3, none⟩ = some (.int .i64 d.k) ∧ w'.cell? ⟨w.heap.size, 4, none⟩ = some (.slice A d.u.length c)) (by kernel_rfl) sd0.cs (fun hS => ?_)
  refine wpAnyH_take (i := 0) (v := ?_) rfl (by kernel_rfl) (by kernel_rfl) (by kernel_rfl) (fun _ _ _ h => h) (Or.inl ⟨by rfl, ?_⟩) hS ?_
  rotate_left 1
  · intro w' hSw
    go_simp <;> with_reducible rfl
  try simp only [List.getElem_toArray, List.getElem_cons_zero, List.getElem_cons_succ, Act.put, List.setIfInBounds_toArray, List.set_cons_zero, List.set_cons_succ]
  refine wpAnyH_take (i := 1) (v := ?_) rfl (by kernel_rfl) (by kernel_rfl) (by kernel_rfl) (fun _ _ _ h => h) (Or.inl ⟨by rfl, ?_⟩) hS ?_
  rotate_left 1
  · intro w' hSw
    go_simp <;> with_reducible rfl
  try simp only [List.getElem_toArray, List.getElem_cons_zero, List.getElem_cons_succ, Act.put, List.setIfInBounds_toArray, List.set_cons_zero, List.set_cons_succ]
  refine wpAnyH_take (i := 2) (v := ?_) rfl (by kernel_rfl) (by kernel_rfl) (by kernel_rfl) (fun _ _ _ h => h) (Or.inl ⟨by rfl, ?_⟩) hS ?_
  rotate_left 1
  · intro w' hSw
    go_simp <;> with_reducible rfl
  try simp only [List.getElem_toArray, List.getElem_cons_zero, List.getElem_cons_succ, Act.put, List.setIfInBounds_toArray, List.set_cons_zero, List.set_cons_succ]
  refine wpAnyH_take (i := 3) (v := ?_) rfl (by kernel_rfl) (by kernel_rfl) (by kernel_rfl) (fun _ _ _ h => h) (Or.inl ⟨by rfl, ?_⟩) hS ?_
  rotate_left 1
  · intro w' hSw
    go_simp <;> with_reducible rfl
  try simp only [List.getElem_toArray, List.getElem_cons_zero, List.getElem_cons_succ, Act.put, List.setIfInBounds_toArray, List.set_cons_zero, List.set_cons_succ]
  refine wpAnyH_take (i := 4) (v := ?_) rfl (by kernel_rfl) (by kernel_rfl) (by kernel_rfl) (fun _ _ _ h => h) (Or.inl ⟨by rfl, ?_⟩) hS ?_
  rotate_left 1
  · intro w' hSw
    go_simp <;> with_reducible rfl
  try simp only [List.getElem_toArray, List.getElem_cons_zero, List.getElem_cons_succ, Act.put, List.setIfInBounds_toArray, List.set_cons_zero, List.set_cons_succ]
  refine wpAnyH_take (i := 5) (v := ?_) rfl (by kernel_rfl) (by kernel_rfl) (by kernel_rfl) (fun _ _ _ h => h) (Or.inl ⟨by rfl, ?_⟩) hS ?_
  rotate_left 1
  · intro w' hSw
    go_simp <;> with_reducible rfl
  try simp only [List.getElem_toArray, List.getElem_cons_zero, List.getElem_cons_succ, Act.put, List.setIfInBounds_toArray, List.set_cons_zero, List.set_cons_succ]
  refine wpAnyH_take (i := 6) (v := ?_) rfl (by kernel_rfl) (by kernel_rfl) (by kernel_rfl) (fun _ _ _ h => h) (Or.inl ⟨by rfl, ?_⟩) hS ?_
  rotate_left 1
  · intro w' hSw
    go_simp <;> with_reducible rfl
  try simp only [List.getElem_toArray, List.getElem_cons_zero, List.getElem_cons_succ, Act.put, List.setIfInBounds_toArray, List.set_cons_zero, List.set_cons_succ]
  refine wpAnyH_take (i := 8) (v := ?_) rfl (by kernel_rfl) (by kernel_rfl) (by kernel_rfl) (fun _ _ _ h => h) (Or.inl ⟨by rfl, ?_⟩) hS ?_
  rotate_left 1
  · intro w' hSw
    go_simp <;> with_reducible rfl
  try simp only [List.getElem_toArray, List.getElem_cons_zero, List.getElem_cons_succ, Act.put, List.setIfInBounds_toArray, List.set_cons_zero, List.set_cons_succ]
  refine wpAnyH_take (i := 9) (v := ?_) rfl (by kernel_rfl) (by kernel_rfl) (by kernel_rfl) (fun _ _ _ h => h) (Or.inl ⟨by rfl, ?_⟩) hS ?_
  rotate_left 1
  · intro w' hSw
    go_simp <;> with_reducible rfl
  try simp only [List.getElem_toArray, List.getElem_cons_zero, List.getElem_cons_succ, Act.put, List.setIfInBounds_toArray, List.set_cons_zero, List.set_cons_succ]
  refine wpAnyH_take (i := 10) (v := ?_) rfl (by kernel_rfl) (by kernel_rfl) (by kernel_rfl) (fun _ _ _ h => h) (Or.inl ⟨by rfl, ?_⟩) hS ?_
  rotate_left 1
  · intro w' hSw
    go_simp <;> with_reducible rfl
  try simp only [List.getElem_toArray, List.getElem_cons_zero, List.getElem_cons_succ, Act.put, List.setIfInBounds_toArray, List.set_cons_zero, List.set_cons_succ]
  refine wpAnyH_take (i := 11) (v := ?_) rfl (by kernel_rfl) (by kernel_rfl) (by kernel_rfl) (fun _ _ _ h => h) (Or.inl ⟨by rfl, ?_⟩) hS ?_
  rotate_left 1
  · intro w' hSw
    go_simp <;> with_reducible rfl
  try simp only [List.getElem_toArray, List.getElem_cons_zero, List.getElem_cons_succ, Act.put, List.setIfInBounds_toArray, List.set_cons_zero, List.set_cons_succ]
  refine wpAnyH_take (i := 12) (v := ?_) rfl (by kernel_rfl) (by kernel_rfl) (by kernel_rfl) (fun _ _ _ h => h) (Or.inl ⟨by rfl, ?_⟩) hS ?_
  rotate_left 1
  · intro w' hSw
    go_simp <;> with_reducible rfl
  try simp only [List.getElem_toArray, List.getElem_cons_zero, List.getElem_cons_succ, Act.put, List.setIfInBounds_toArray, List.set_cons_zero, List.set_cons_succ]
  refine wpAnyH_take (i := 13) (v := ?_) rfl (by kernel_rfl) (by kernel_rfl) (by kernel_rfl) (fun _ _ _ h => h) (Or.inl ⟨by rfl, ?_⟩) hS ?_
  rotate_left 1
  · intro w' hSw
    go_simp <;> with_reducible rfl
  try simp only [List.getElem_toArray, List.getElem_cons_zero, List.getElem_cons_succ, Act.put, List.setIfInBounds_toArray, List.set_cons_zero, List.set_cons_succ]
  refine wpAnyH_take (i := 14) (v := ?_) rfl (by kernel_rfl) (by kernel_rfl) (by kernel_rfl) (fun _ _ _ h => h) (Or.inl ⟨by rfl, ?_⟩) hS ?_
  rotate_left 1
  · intro w' hSw
    go_simp <;> with_reducible rfl
  try simp only [List.getElem_toArray, List.getElem_cons_zero, List.getElem_cons_succ, Act.put, List.setIfInBounds_toArray, List.set_cons_zero, List.set_cons_succ]
  refine wpAnyH_ready (rs := [7]) (by kernel_rfl) (by simp) (AllReadyH.cons rfl (fun K hK => ?_) AllReadyH.nil)
  go_simp
  have hcon := pr_cut sd0.two d.s (by omega) d.k
  unfold nmV at hcon
  (with_reducible refine hcon.mono ?_)
  rintro _ w2 ⟨rfl, q1, q2⟩
  have sd1 := sd0.step q1 q2
  clear q1 q2 hcon
  go_simp
  refine hK _ _ sd1.cs (fun hS => ?_)
  clear hK K
  try simp only [List.getElem_toArray, List.getElem_cons_zero, List.getElem_cons_succ, Act.put, List.setIfInBounds_toArray, List.set_cons_zero, List.set_cons_succ]
  refine wpAnyH_ready (rs := [15]) (by kernel_rfl) (by simp) (AllReadyH.cons rfl (fun K hK => ?_) AllReadyH.nil)
  go_simp
  have hcon := pr_rcut sd1.two d.s d.k sd1.two.plain.1
  unfold nmV at hcon
  (with_reducible refine hcon.mono ?_)
  rintro _ w3 ⟨rfl, q1, q2⟩
  have sd2 := sd1.step q1 q2
  clear q1 q2 hcon
  go_simp
  refine hK _ _ sd2.cs (fun hS => ?_)
  clear hK K
  try simp only [List.getElem_toArray, List.getElem_cons_zero, List.getElem_cons_succ, Act.put, List.setIfInBounds_toArray, List.set_cons_zero, List.set_cons_succ]
  refine wpAnyH_take (i := 16) (v := ?_) rfl (by kernel_rfl) (by kernel_rfl) (by kernel_rfl) (fun _ _ _ h => h) (Or.inl ⟨by rfl, ?_⟩) hS ?_
  rotate_left 1
  · intro w' hSw
    go_simp <;> with_reducible rfl
  try simp only [List.getElem_toArray, List.getElem_cons_zero, List.getElem_cons_succ, Act.put, List.setIfInBounds_toArray, List.set_cons_zero, List.set_cons_succ]
  refine wpAnyH_take (i := 17) (v := ?_) rfl (by kernel_rfl) (by kernel_rfl) (by kernel_rfl) (fun _ _ _ h => h) (Or.inl ⟨by rfl, ?_⟩) hS ?_
  rotate_left 1
  · intro w' hSw
    go_simp <;> with_reducible rfl
  try simp only [List.getElem_toArray, List.getElem_cons_zero, List.getElem_cons_succ, Act.put, List.setIfInBounds_toArray, List.set_cons_zero, List.set_cons_succ]
  refine wpAnyH_done (by kernel_rfl) ?_ _
  go_wp2_with fail
  go_ret
  exact sd2.stop rfl hb1 hlt
set_option maxHeartbeats 4000000 in
theorem step_rename (hn1 : n + 1 ≤ 1000000) (hp : pickI d.o 9 = 5) (h : Pr F D X room L L n w) (hr : Rws gd gx (.pointer (some ⟨D, 0, none⟩)) d1 (.pointer (some ⟨X, 0, none⟩)) x1 w) (hd : F gd) (hx : F gx) (ha : StA F d A c w) :
    Calls Tryz.prog 11 #[.slice (some ⟨gd, 0, none⟩) 2 2, .slice (some ⟨gx, 0, none⟩) 2 2, .agg #[.int .i64 d.o, nmV d.s, nmV d.t, .int .i64 d.k, .slice A d.u.length c]] w (StE F D X room (renL L d.s d.t) n w) := by
  have hpk : ∀ W, Calls Tryz.prog 25 #[.int .i64 d.o, .int .i64 9] W fun e w' => e = .returned (.int .i64 5) ∧ W = w' := fun W => by
    have := pick_any d.o 9 W (by decide) (by decide)
    rw [hp] at this
    exact this
  have sd := Sd.start h hr hd hx ha
  have hlt := h.flt
  have hb1 : Below w.heap.size w (w.alloc (.cells #[.int .i64 d.o, nmV d.s, nmV d.t, .int .i64 d.k, .slice A d.u.length c] 31)) := (Below.refl _ _).alloc (Nat.le_refl _) _
  obtain ⟨_, hlen, hls, hlt2⟩ := ha
  have hb0 : (w.alloc (.cells #[.int .i64 d.o, nmV d.s, nmV d.t, .int .i64 d.k, .slice A d.u.length c] 31)).cell? ⟨w.heap.size, 0, none⟩ = some (.int .i64 d.o) := (box_cells sd.box).1
  have hpl := h.plain
  clear hp hr hd hx h
  unfold nmV at hb0 sd hb1
  unfold nmV
  go_enter Tryz.func11, Tryz.ntmps11
  go_wp2_with fail
  generalize (w.alloc (.cells #[.int .i64 d.o, .string ⟨d.s.toArray⟩, .string ⟨d.t.toArray⟩, .int .i64 d.k, .slice A d.u.length c] 31)) = w1 at *
  go_wp2_with fail
  (with_reducible refine (hpk _).mono ?_)
  rintro _ _ ⟨rfl, rfl⟩
  clear hb0
  go_wp2_with fail
  have hE : ((renE L d.s d.t) == (renE L d.s d.t)) = true := beq_self_eq_true _
  have sd0 := sd.below (Below.refl _ _).drew
  refine wp_region_held_drew (S := fun w' => w'.cell? ⟨gd, 0, none⟩ = some (.pointer (some ⟨D, 0, none⟩)) ∧ w'.cell? ⟨gx, 0, none⟩ = some (.pointer (some ⟨X, 0, none⟩)) ∧ w'.cell? ⟨w.heap.size, 1, none⟩ = some (.string ⟨d.s.toArray⟩) ∧ w'.cell? ⟨w.heap.size, 2, none⟩ = some (.string ⟨d.t.toArray⟩) ∧ w'.cell? ⟨w.heap.size, 3, none⟩ = some (.int .i64 d.k) ∧ w'.cell? ⟨w.heap.size, 4, none⟩ = some (.slice A d.u.length c)) (by kernel_rfl) sd0.cs (fun hS => ?_)
  refine wpAnyH_take (i := 0) (v := ?_) rfl (by kernel_rfl) (by kernel_rfl) (by kernel_rfl) (fun _ _ _ h => h) (Or.inl ⟨by rfl, ?_⟩) hS ?_
  rotate_left 1
  · intro w' hSw
    go_simp <;> with_reducible rfl
  try simp only [List.getElem_toArray, List.getElem_cons_zero, List.getElem_cons_succ, Act.put, List.setIfInBounds_toArray, List.set_cons_zero, List.set_cons_succ]
  refine wpAnyH_take (i := 1) (v := ?_) rfl (by kernel_rfl) (by kernel_rfl) (by kernel_rfl) (fun _ _ _ h => h) (Or.inl ⟨by rfl, ?_⟩) hS ?_
  rotate_left 1
  · intro w' hSw
    go_simp <;> with_reducible rfl
  try simp only [List.getElem_toArray, List.getElem_cons_zero, List.getElem_cons_succ, Act.put, List.setIfInBounds_toArray, List.set_cons_zero, List.set_cons_succ]
  refine wpAnyH_take (i := 2) (v := ?_) rfl (by kernel_rfl) (by kernel_rfl) (by kernel_rfl) (fun _ _ _ h => h) (Or.inl ⟨by rfl, ?_⟩) hS ?_
  rotate_left 1
  · intro w' hSw
    go_simp <;> with_reducible rfl
  try simp only [List.getElem_toArray, List.getElem_cons_zero, List.getElem_cons_succ, Act.put, List.setIfInBounds_toArray, List.set_cons_zero, List.set_cons_succ]
  refine wpAnyH_take (i := 3) (v := ?_) rfl (by kernel_rfl) (by kernel_rfl) (by kernel_rfl) (fun _ _ _ h => h) (Or.inl ⟨by rfl, ?_⟩) hS ?_
  rotate_left 1
  · intro w' hSw
    go_simp <;> with_reducible rfl
  try simp only [List.getElem_toArray, List.getElem_cons_zero, List.getElem_cons_succ, Act.put, List.setIfInBounds_toArray, List.set_cons_zero, List.set_cons_succ]
  refine wpAnyH_take (i := 4) (v := ?_) rfl (by kernel_rfl) (by kernel_rfl) (by kernel_rfl) (fun _ _ _ h => h) (Or.inl ⟨by rfl, ?_⟩) hS ?_
  rotate_left 1
  · intro w' hSw
    go_simp <;> with_reducible rfl
  try simp only [List.getElem_toArray, List.getElem_cons_zero, List.getElem_cons_succ, Act.put, List.setIfInBounds_toArray, List.set_cons_zero, List.set_cons_succ]
  refine wpAnyH_take (i := 5) (v := ?_) rfl (by kernel_rfl) (by kernel_rfl) (by kernel_rfl) (fun _ _ _ h => h) (Or.inl ⟨by rfl, ?_⟩) hS ?_
  rotate_left 1
  · intro w' hSw
    go_simp <;> with_reducible rfl
  try simp only [List.getElem_toArray, List.getElem_cons_zero, List.getElem_cons_succ, Act.put, List.setIfInBounds_toArray, List.set_cons_zero, List.set_cons_succ]
  refine wpAnyH_take (i := 6) (v := ?_) rfl (by kernel_rfl) (by kernel_rfl) (by kernel_rfl) (fun _ _ _ h => h) (Or.inl ⟨by rfl, ?_⟩) hS ?_
  rotate_left 1
  · intro w' hSw
    go_simp <;> with_reducible rfl
  try simp only [List.getElem_toArray, List.getElem_cons_zero, List.getElem_cons_succ, Act.put, List.setIfInBounds_toArray, List.set_cons_zero, List.set_cons_succ]
  refine wpAnyH_take (i := 8) (v := ?_) rfl (by kernel_rfl) (by kernel_rfl) (by kernel_rfl) (fun _ _ _ h => h) (Or.inl ⟨by rfl, ?_⟩) hS ?_
  rotate_left 1
  · intro w' hSw
    go_simp <;> with_reducible rfl
  try simp only [List.getElem_toArray, List.getElem_cons_zero, List.getElem_cons_succ, Act.put, List.setIfInBounds_toArray, List.set_cons_zero, List.set_cons_succ]
  refine wpAnyH_take (i := 9) (v := ?_) rfl (by kernel_rfl) (by kernel_rfl) (by kernel_rfl) (fun _ _ _ h => h) (Or.inl ⟨by rfl, ?_⟩) hS ?_
  rotate_left 1
  · intro w' hSw
    go_simp <;> with_reducible rfl
  try simp only [List.getElem_toArray, List.getElem_cons_zero, List.getElem_cons_succ, Act.put, List.setIfInBounds_toArray, List.set_cons_zero, List.set_cons_succ]
  refine wpAnyH_take (i := 10) (v := ?_) rfl (by kernel_rfl) (by kernel_rfl) (by kernel_rfl) (fun _ _ _ h => h) (Or.inl ⟨by rfl, ?_⟩) hS ?_
  rotate_left 1
  · intro w' hSw
    go_simp <;> with_reducible rfl
  try simp only [List.getElem_toArray, List.getElem_cons_zero, List.getElem_cons_succ, Act.put, List.setIfInBounds_toArray, List.set_cons_zero, List.set_cons_succ]
  refine wpAnyH_take (i := 11) (v := ?_) rfl (by kernel_rfl) (by kernel_rfl) (by kernel_rfl) (fun _ _ _ h => h) (Or.inl ⟨by rfl, ?_⟩) hS ?_
  rotate_left 1
  · intro w' hSw
    go_simp <;> with_reducible rfl
  try simp only [List.getElem_toArray, List.getElem_cons_zero, List.getElem_cons_succ, Act.put, List.setIfInBounds_toArray, List.set_cons_zero, List.set_cons_succ]
  refine wpAnyH_take (i := 12) (v := ?_) rfl (by kernel_rfl) (by kernel_rfl) (by kernel_rfl) (fun _ _ _ h => h) (Or.inl ⟨by rfl, ?_⟩) hS ?_
  rotate_left 1
  · intro w' hSw
    go_simp <;> with_reducible rfl
  try simp only [List.getElem_toArray, List.getElem_cons_zero, List.getElem_cons_succ, Act.put, List.setIfInBounds_toArray, List.set_cons_zero, List.set_cons_succ]
  refine wpAnyH_take (i := 13) (v := ?_) rfl (by kernel_rfl) (by kernel_rfl) (by kernel_rfl) (fun _ _ _ h => h) (Or.inl ⟨by rfl, ?_⟩) hS ?_
  rotate_left 1
  · intro w' hSw
    go_simp <;> with_reducible rfl
  try simp only [List.getElem_toArray, List.getElem_cons_zero, List.getElem_cons_succ, Act.put, List.setIfInBounds_toArray, List.set_cons_zero, List.set_cons_succ]
  refine wpAnyH_take (i := 14) (v := ?_) rfl (by kernel_rfl) (by kernel_rfl) (by kernel_rfl) (fun _ _ _ h => h) (Or.inl ⟨by rfl, ?_⟩) hS ?_
  rotate_left 1
  · intro w' hSw
    go_simp <;> with_reducible rfl
  try simp only [List.getElem_toArray, List.getElem_cons_zero, List.getElem_cons_succ, Act.put, List.setIfInBounds_toArray, List.set_cons_zero, List.set_cons_succ]
  refine wpAnyH_ready (rs := [7]) (by kernel_rfl) (by simp) (AllReadyH.cons rfl (fun K hK => ?_) AllReadyH.nil)
  go_simp
  have hcon := pr_rename sd0.two d.s (by omega) d.t (by omega)
  unfold nmV at hcon
  (with_reducible refine hcon.mono ?_)
  rintro _ w2 ⟨rfl, q1, q2⟩
  have sd1 := sd0.step q1 q2
  clear q1 q2 hcon
  go_simp
  refine hK _ _ sd1.cs (fun hS => ?_)
  clear hK K
  try simp only [List.getElem_toArray, List.getElem_cons_zero, List.getElem_cons_succ, Act.put, List.setIfInBounds_toArray, List.set_cons_zero, List.set_cons_succ]
  refine wpAnyH_ready (rs := [15]) (by kernel_rfl) (by simp) (AllReadyH.cons rfl (fun K hK => ?_) AllReadyH.nil)
  go_simp
  have hcon := pr_rrename sd1.two d.s (by omega) d.t (by omega) sd1.two.plain.1 hn1
  unfold nmV at hcon
  (with_reducible refine hcon.mono ?_)
  rintro _ w3 ⟨rfl, q1, q2⟩
  have sd2 := sd1.step q1 q2
  clear q1 q2 hcon
  go_simp
  refine hK _ _ sd2.cs (fun hS => ?_)
  clear hK K
  try simp only [List.getElem_toArray, List.getElem_cons_zero, List.getElem_cons_succ, Act.put, List.setIfInBounds_toArray, List.set_cons_zero, List.set_cons_succ]
  refine wpAnyH_take (i := 16) (v := ?_) rfl (by kernel_rfl) (by kernel_rfl) (by kernel_rfl) (fun _ _ _ h => h) (Or.inl ⟨by rfl, ?_⟩) hS ?_
  rotate_left 1
  · intro w' hSw
    go_simp <;> with_reducible rfl
  try simp only [List.getElem_toArray, List.getElem_cons_zero, List.getElem_cons_succ, Act.put, List.setIfInBounds_toArray, List.set_cons_zero, List.set_cons_succ]
  refine wpAnyH_take (i := 17) (v := ?_) rfl (by kernel_rfl) (by kernel_rfl) (by kernel_rfl) (fun _ _ _ h => h) (Or.inl ⟨by rfl, ?_⟩) hS ?_
  rotate_left 1
  · intro w' hSw
    go_simp <;> with_reducible rfl
  try simp only [List.getElem_toArray, List.getElem_cons_zero, List.getElem_cons_succ, Act.put, List.setIfInBounds_toArray, List.set_cons_zero, List.set_cons_succ]
  refine wpAnyH_done (by kernel_rfl) ?_ _
  go_wp2_with fail
  go_ret
  exact sd2.stop rfl hb1 hlt
set_option maxHeartbeats 4000000 in
theorem step_remove (hp : pickI d.o 9 = 6) (h : Pr F D X room L L n w) (hr : Rws gd gx (.pointer (some ⟨D, 0, none⟩)) d1 (.pointer (some ⟨X, 0, none⟩)) x1 w) (hd : F gd) (hx : F gx) (ha : StA F d A c w) :
    Calls Tryz.prog 11 #[.slice (some ⟨gd, 0, none⟩) 2 2, .slice (some ⟨gx, 0, none⟩) 2 2, .agg #[.int .i64 d.o, nmV d.s, nmV d.t, .int .i64 d.k, .slice A d.u.length c]] w (StE F D X room (delF L d.s) n w) := by
  have hpk : ∀ W, Calls Tryz.prog 25 #[.int .i64 d.o, .int .i64 9] W fun e w' => e = .returned (.int .i64 6) ∧ W = w' := fun W => by
    have := pick_any d.o 9 W (by decide) (by decide)
    rw [hp] at this
    exact this
  have sd := Sd.start h hr hd hx ha
  have hlt := h.flt
  have hb1 : Below w.heap.size w (w.alloc (.cells #[.int .i64 d.o, nmV d.s, nmV d.t, .int .i64 d.k, .slice A d.u.length c] 31)) := (Below.refl _ _).alloc (Nat.le_refl _) _
  obtain ⟨_, hlen, hls, hlt2⟩ := ha
  have hb0 : (w.alloc (.cells #[.int .i64 d.o, nmV d.s, nmV d.t, .int .i64 d.k, .slice A d.u.length c] 31)).cell? ⟨w.heap.size, 0, none⟩ = some (.int .i64 d.o) := (box_cells sd.box).1
  have hpl := h.plain
  clear hp hr hd hx h
  unfold nmV at hb0 sd hb1
  unfold nmV
  go_enter Tryz.func11, Tryz.ntmps11
  go_wp2_with fail
  generalize (w.alloc (.cells #[.int .i64 d.o, .string ⟨d.s.toArray⟩, .string ⟨d.t.toArray⟩, .int .i64 d.k, .slice A d.u.length c] 31)) = w1 at *
  go_wp2_with fail
  (with_reducible refine (hpk _).mono ?_)
  rintro _ _ ⟨rfl, rfl⟩
  clear hb0
  go_wp2_with fail
  have hE : ((remE L d.s) == (remE L d.s)) = true := beq_self_eq_true _
  have sd0 := sd.below (Below.refl _ _).drew
  refine wp_region_held_drew (S := fun w' => w'.cell? ⟨gd, 0, none⟩ = some (.pointer (some ⟨D, 0, none⟩)) ∧ w'.cell? ⟨gx, 0, none⟩ = some (.pointer (some ⟨X, 0, none⟩)) ∧ w'.cell? ⟨w.heap.size, 1, none⟩ = some (.string ⟨d.s.toArray⟩) ∧ w'.cell? ⟨w.heap.size, 2, none⟩ = some (.string ⟨d.t.toArray⟩) ∧ w'.cell? ⟨w.heap.size, 3, none⟩ = some (.int .i64 d.k) ∧ w'.cell? ⟨w.heap.size, 4, none⟩ = some (.slice A d.u.length c)) (by kernel_rfl) sd0.cs (fun hS => ?_)
  refine wpAnyH_take (i := 0) (v := ?_) rfl (by kernel_rfl) (by kernel_rfl) (by kernel_rfl) (fun _ _ _ h => h) (Or.inl ⟨by rfl, ?_⟩) hS ?_
  rotate_left 1
  · intro w' hSw
    go_simp <;> with_reducible rfl
  try simp only [List.getElem_toArray, List.getElem_cons_zero, List.getElem_cons_succ, Act.put, List.setIfInBounds_toArray, List.set_cons_zero, List.set_cons_succ]
  refine wpAnyH_take (i := 1) (v := ?_) rfl (by kernel_rfl) (by kernel_rfl) (by kernel_rfl) (fun _ _ _ h => h) (Or.inl ⟨by rfl, ?_⟩) hS ?_
  rotate_left 1
  · intro w' hSw
    go_simp <;> with_reducible rfl
  try simp only [List.getElem_toArray, List.getElem_cons_zero, List.getElem_cons_succ, Act.put, List.setIfInBounds_toArray, List.set_cons_zero, List.set_cons_succ]
  refine wpAnyH_take (i := 2) (v := ?_) rfl (by kernel_rfl) (by kernel_rfl) (by kernel_rfl) (fun _ _ _ h => h) (Or.inl ⟨by rfl, ?_⟩) hS ?_
  rotate_left 1
  · intro w' hSw
    go_simp <;> with_reducible rfl
  try simp only [List.getElem_toArray, List.getElem_cons_zero, List.getElem_cons_succ, Act.put, List.setIfInBounds_toArray, List.set_cons_zero, List.set_cons_succ]
  refine wpAnyH_take (i := 3) (v := ?_) rfl (by kernel_rfl) (by kernel_rfl) (by kernel_rfl) (fun _ _ _ h => h) (Or.inl ⟨by rfl, ?_⟩) hS ?_
  rotate_left 1
  · intro w' hSw
    go_simp <;> with_reducible rfl
  try simp only [List.getElem_toArray, List.getElem_cons_zero, List.getElem_cons_succ, Act.put, List.setIfInBounds_toArray, List.set_cons_zero, List.set_cons_succ]
  refine wpAnyH_take (i := 4) (v := ?_) rfl (by kernel_rfl) (by kernel_rfl) (by kernel_rfl) (fun _ _ _ h => h) (Or.inl ⟨by rfl, ?_⟩) hS ?_
  rotate_left 1
  · intro w' hSw
    go_simp <;> with_reducible rfl
  try simp only [List.getElem_toArray, List.getElem_cons_zero, List.getElem_cons_succ, Act.put, List.setIfInBounds_toArray, List.set_cons_zero, List.set_cons_succ]
  refine wpAnyH_take (i := 6) (v := ?_) rfl (by kernel_rfl) (by kernel_rfl) (by kernel_rfl) (fun _ _ _ h => h) (Or.inl ⟨by rfl, ?_⟩) hS ?_
  rotate_left 1
  · intro w' hSw
    go_simp <;> with_reducible rfl
  try simp only [List.getElem_toArray, List.getElem_cons_zero, List.getElem_cons_succ, Act.put, List.setIfInBounds_toArray, List.set_cons_zero, List.set_cons_succ]
  refine wpAnyH_take (i := 7) (v := ?_) rfl (by kernel_rfl) (by kernel_rfl) (by kernel_rfl) (fun _ _ _ h => h) (Or.inl ⟨by rfl, ?_⟩) hS ?_
  rotate_left 1
  · intro w' hSw
    go_simp <;> with_reducible rfl
  try simp only [List.getElem_toArray, List.getElem_cons_zero, List.getElem_cons_succ, Act.put, List.setIfInBounds_toArray, List.set_cons_zero, List.set_cons_succ]
  refine wpAnyH_take (i := 8) (v := ?_) rfl (by kernel_rfl) (by kernel_rfl) (by kernel_rfl) (fun _ _ _ h => h) (Or.inl ⟨by rfl, ?_⟩) hS ?_
  rotate_left 1
  · intro w' hSw
    go_simp <;> with_reducible rfl
  try simp only [List.getElem_toArray, List.getElem_cons_zero, List.getElem_cons_succ, Act.put, List.setIfInBounds_toArray, List.set_cons_zero, List.set_cons_succ]
  refine wpAnyH_take (i := 9) (v := ?_) rfl (by kernel_rfl) (by kernel_rfl) (by kernel_rfl) (fun _ _ _ h => h) (Or.inl ⟨by rfl, ?_⟩) hS ?_
  rotate_left 1
  · intro w' hSw
    go_simp <;> with_reducible rfl
  try simp only [List.getElem_toArray, List.getElem_cons_zero, List.getElem_cons_succ, Act.put, List.setIfInBounds_toArray, List.set_cons_zero, List.set_cons_succ]
  refine wpAnyH_take (i := 10) (v := ?_) rfl (by kernel_rfl) (by kernel_rfl) (by kernel_rfl) (fun _ _ _ h => h) (Or.inl ⟨by rfl, ?_⟩) hS ?_
  rotate_left 1
  · intro w' hSw
    go_simp <;> with_reducible rfl
  try simp only [List.getElem_toArray, List.getElem_cons_zero, List.getElem_cons_succ, Act.put, List.setIfInBounds_toArray, List.set_cons_zero, List.set_cons_succ]
  refine wpAnyH_ready (rs := [5]) (by kernel_rfl) (by simp) (AllReadyH.cons rfl (fun K hK => ?_) AllReadyH.nil)
  go_simp
  have hcon := pr_remove sd0.two d.s (by omega)
  unfold nmV at hcon
  (with_reducible refine hcon.mono ?_)
  rintro _ w2 ⟨rfl, q1, q2⟩
  have sd1 := sd0.step q1 q2
  clear q1 q2 hcon
  go_simp
  refine hK _ _ sd1.cs (fun hS => ?_)
  clear hK K
  try simp only [List.getElem_toArray, List.getElem_cons_zero, List.getElem_cons_succ, Act.put, List.setIfInBounds_toArray, List.set_cons_zero, List.set_cons_succ]
  refine wpAnyH_ready (rs := [11]) (by kernel_rfl) (by simp) (AllReadyH.cons rfl (fun K hK => ?_) AllReadyH.nil)
  go_simp
  have hcon := pr_rremove sd1.two d.s sd1.two.plain.1
  unfold nmV at hcon
  (with_reducible refine hcon.mono ?_)
  rintro _ w3 ⟨rfl, q1, q2⟩
  have sd2 := sd1.step q1 q2
  clear q1 q2 hcon
  go_simp
  refine hK _ _ sd2.cs (fun hS => ?_)
  clear hK K
  try simp only [List.getElem_toArray, List.getElem_cons_zero, List.getElem_cons_succ, Act.put, List.setIfInBounds_toArray, List.set_cons_zero, List.set_cons_succ]
  refine wpAnyH_take (i := 12) (v := ?_) rfl (by kernel_rfl) (by kernel_rfl) (by kernel_rfl) (fun _ _ _ h => h) (Or.inl ⟨by rfl, ?_⟩) hS ?_
  rotate_left 1
  · intro w' hSw
    go_simp <;> with_reducible rfl
  try simp only [List.getElem_toArray, List.getElem_cons_zero, List.getElem_cons_succ, Act.put, List.setIfInBounds_toArray, List.set_cons_zero, List.set_cons_succ]
  refine wpAnyH_take (i := 13) (v := ?_) rfl (by kernel_rfl) (by kernel_rfl) (by kernel_rfl) (fun _ _ _ h => h) (Or.inl ⟨by rfl, ?_⟩) hS ?_
  rotate_left 1
  · intro w' hSw
    go_simp <;> with_reducible rfl
  try simp only [List.getElem_toArray, List.getElem_cons_zero, List.getElem_cons_succ, Act.put, List.setIfInBounds_toArray, List.set_cons_zero, List.set_cons_succ]
  refine wpAnyH_done (by kernel_rfl) ?_ _
  go_wp2_with fail
  go_ret
  exact sd2.stop rfl hb1 hlt
end
end Go.Proofs.YtcmbeolicopicaaGreat

