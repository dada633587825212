/- disk: the law's step: a copy takes the disk's place. -/
import Derived.Test.YtcmbeolicopicaaGreatE19
namespace Go.Proofs.YtcmbeolicopicaaGreat
open Go.RowKit Go.Maps Go.ChangeMaps
set_option linter.unusedVariables false
set_option linter.unusedSectionVars false
set_option linter.unusedSimpArgs false
set_option maxRecDepth 100000

def cpS : Nm := [99, 111, 112, 105, 101, 100]
/-- What a step ends with that makes a copy. -/
def StC (F : Nat → Prop) (D X gd gx : Nat) (room : Int) (L : List FE) (n : Nat) (w : World) (e : Ending) (w' : World) : Prop :=
  e = .returned (.bool true) ∧ (∃ (D2 X2 : Nat) (F' : Nat → Prop), Pr F' D2 X2 room L L n w' ∧ PIn F' D X room (appL room L cpS [1, 2]) (n + 1) w' ∧ (∀ j, F j → F' j) ∧ Rws gd gx (.pointer (some ⟨D2, 0, none⟩)) (.pointer (some ⟨D, 0, none⟩)) (.pointer (some ⟨X2, 0, none⟩)) (.pointer (some ⟨X, 0, none⟩)) w') ∧ Ag (fun j => F j ∧ j ≠ gd ∧ j ≠ gx) w w'
section
variable {gd gx : Nat} {d0 d1 x0 x1 : Value} {w : World} (h : Rws gd gx d0 d1 x0 x1 w) (hg : gd ≠ gx) (v : Value)
include h hg
theorem Rws.setd0 : Rws gd gx v d1 x0 x1 (w.setCell ⟨gd, 0, none⟩ v) := ⟨h.d.set 0 v, h.x.far (p := ⟨gd, 0, none⟩) hg.symm v⟩
theorem Rws.setd1 : Rws gd gx d0 v x0 x1 (w.setCell ⟨gd, 1, none⟩ v) := ⟨h.d.set 1 v, h.x.far (p := ⟨gd, 1, none⟩) hg.symm v⟩
theorem Rws.setx0 : Rws gd gx d0 d1 v x1 (w.setCell ⟨gx, 0, none⟩ v) := ⟨h.d.far (p := ⟨gx, 0, none⟩) hg v, h.x.set 0 v⟩
theorem Rws.setx1 : Rws gd gx d0 d1 x0 v (w.setCell ⟨gx, 1, none⟩ v) := ⟨h.d.far (p := ⟨gx, 1, none⟩) hg v, h.x.set 1 v⟩
end
/-- Behind a copy: the old disks, beside memory of F; the two bytes that are put on them, at blocks of G. -/
def Cc (F : Nat → Prop) (D X : Nat) (room : Int) (L L2 : List FE) (n : Nat) (G : Nat → Prop) (w5 w : World) : Prop :=
  ∃ F4 : Nat → Prop, (∀ j, F j → F4 j) ∧ Pr F4 D X room L L2 n w ∧ (∀ g, G g → F4 g ∧ Bk w g 5 [.int .u8 1, .int .u8 2]) ∧ Ag F w5 w
section
variable {F : Nat → Prop} {D X n : Nat} {room : Int} {L L2 : List FE} {G : Nat → Prop} {w5 w : World}
theorem Cc.new (h : Cc F D X room L L2 n G w5 w) : Cc F D X room L L2 n (fun g => G g ∨ g = w.heap.size) w5 (w.alloc (.cells #[.int .u8 1, .int .u8 2] 5)) := by
  obtain ⟨F4, h1, h2, h3, h4⟩ := h
  have hb : Below w.heap.size w (w.alloc (.cells #[.int .u8 1, .int .u8 2] 5)) := (Below.refl _ _).alloc (Nat.le_refl _) _
  refine ⟨fun j => F4 j ∨ j = w.heap.size, fun j q => .inl (h1 j q), h2.guard hb fun j q => q.imp id (fun e => by rw [World.size_alloc]; omega), fun g q => ?_, h4.trans (Ag.of_below F hb)⟩
  rcases q with q | rfl
  · exact ⟨.inl (h3 g q).1, (hb.block g (h3 g q).2.lt).trans (h3 g q).2⟩
  · exact ⟨.inr rfl, Bk.new w _ _⟩
theorem Cc.rd (h : Cc F D X room L L2 n G w5 w) {g : Nat} (hg : G g) : Rd w (fun b => b = g) (some ⟨g, 0, none⟩) 2 (u8s [1, 2]) := by
  obtain ⟨F4, h1, h2, h3, h4⟩ := h
  have := (h3 g hg).2
  exact bk_pre (l := [1, 2]) (m := []) this 2
theorem Cc.lt (h : Cc F D X room L L2 n G w5 w) {g : Nat} (hg : G g) : g < w.heap.size := by
  obtain ⟨F4, h1, h2, h3, h4⟩ := h
  exact (h3 g hg).2.lt
theorem Cc.app (h : Cc F D X room L L2 n G w5 w) (hn : n + 1 ≤ 1000000) (g : Nat) (hg : G g) :
    Calls Tryz.prog 16 #[.pointer (some ⟨D, 0, none⟩), .string ⟨#[99, 111, 112, 105, 101, 100]⟩, .slice (some ⟨g, 0, none⟩) 2 2] w fun e w' => e = .returned (.int .i64 (appE room L cpS [1, 2])) ∧ Cc F D X room (appL room L cpS [1, 2]) L2 (n + 1) G w5 w' := by
  have hr := h.rd hg
  have hl := h.lt hg
  obtain ⟨F4, h1, h2, h3, h4⟩ := h
  refine (pr_append h2 cpS (by decide) (some ⟨g, 0, none⟩) 2 [1, 2] hr (fun b e => by subst e; exact hl) (by decide) hn).mono ?_
  rintro e w' ⟨q1, q2, q3⟩
  exact ⟨q1, F4, h1, q2, fun g q => ⟨(h3 g q).1, (q3.block g (h3 g q).2.lt (h3 g q).1).trans (h3 g q).2⟩, h4.trans (q3.mono fun j _ q => h1 j q)⟩
theorem Cc.rapp (h : Cc F D X room L L2 n G w5 w) (hm : (appL room L2 cpS [1, 2]).length ≤ n) (hn : n + 1 ≤ 1000000) (g : Nat) (hg : G g) :
    Calls Tryz.prog 35 #[.pointer (some ⟨X, 0, none⟩), .string ⟨#[99, 111, 112, 105, 101, 100]⟩, .slice (some ⟨g, 0, none⟩) 2 2] w fun e w' => e = .returned (.int .i64 (appE room L2 cpS [1, 2])) ∧ Cc F D X room L (appL room L2 cpS [1, 2]) n G w5 w' := by
  have hr := h.rd hg
  have hl := h.lt hg
  obtain ⟨F4, h1, h2, h3, h4⟩ := h
  refine (pr_rappend h2 cpS (by decide) (some ⟨g, 0, none⟩) 2 [1, 2] hr (fun b e => by subst e; exact hl) (by decide) hm hn).mono ?_
  rintro e w' ⟨q1, q2, q3⟩
  exact ⟨q1, F4, h1, q2, fun g q => ⟨(h3 g q).1, (q3.block g (h3 g q).2.lt (h3 g q).1).trans (h3 g q).2⟩, h4.trans (q3.mono fun j _ q => h1 j q)⟩
theorem Cc.plain (h : Cc F D X room L L2 n G w5 w) : L.length ≤ n := by
  obtain ⟨F4, h1, h2, h3, h4⟩ := h
  exact h2.plain.1
theorem Cc.rws {gd gx : Nat} {d0 d1 x0 x1 : Value} (h : Cc F D X room L L2 n G w5 w) (hr : Rws gd gx d0 d1 x0 x1 w5) (hd : F gd) (hx : F gx) : Rws gd gx d0 d1 x0 x1 w := by
  obtain ⟨F4, h1, h2, h3, h4⟩ := h
  exact hr.keep (h4.block gd hr.d.lt hd) (h4.block gx hr.x.lt hx)
end
section
variable {F : Nat → Prop} {D X gd gx n : Nat} {room : Int} {d : DoV} {A : Option Addr} {c : Nat} {d1 x1 : Value} {L : List FE} {w : World}
set_option maxHeartbeats 4000000 in
theorem step_copy (hroom : 0 ≤ room) (hgg : gd ≠ gx) (hn2 : n + 1 + 1 ≤ 1000000) (hp : pickI d.o 9 = 8) (h : Pr F D X room L L n w) (hr : Rws gd gx (.pointer (some ⟨D, 0, none⟩)) d1 (.pointer (some ⟨X, 0, none⟩)) x1 w) (hd : F gd) (hx : F gx) (ha : StA F d A c w) :
    Calls Tryz.prog 11 #[.slice (some ⟨gd, 0, none⟩) 2 2, .slice (some ⟨gx, 0, none⟩) 2 2, .agg #[.int .i64 d.o, nmV d.s, nmV d.t, .int .i64 d.k, .slice A d.u.length c]] w (StC F D X gd gx room L n w) := by
  have hmx : max room 0 = room := by omega
  have HMX := Lib.hid hmx
  have HFd := Lib.hid hd
  have HFx := Lib.hid hx
  have hdl := h.flt gd hd
  have hxl := h.flt gx hx
  have hn1 : n + 1 ≤ 1000000 := by omega
  clear hmx
  have hpk : ∀ W, Calls Tryz.prog 25 #[.int .i64 d.o, .int .i64 9] W fun e w' => e = .returned (.int .i64 8) ∧ W = w' := fun W => by
    have := pick_any d.o 9 W (by decide) (by decide)
    rw [hp] at this
    exact this
  have sd := Sd.start h hr hd hx ha
  have hlt := h.flt
  have hb1 : Below w.heap.size w (w.alloc (.cells #[.int .i64 d.o, nmV d.s, nmV d.t, .int .i64 d.k, .slice A d.u.length c] 31)) := (Below.refl _ _).alloc (Nat.le_refl _) _
  obtain ⟨_, hlen, hls, hlt2⟩ := ha
  have hb0 : (w.alloc (.cells #[.int .i64 d.o, nmV d.s, nmV d.t, .int .i64 d.k, .slice A d.u.length c] 31)).cell? ⟨w.heap.size, 0, none⟩ = some (.int .i64 d.o) := (box_cells sd.box).1
  have hpl := h.plain
  clear hp hr hd hx h
  unfold nmV at hb0 sd hb1
  unfold nmV
  go_enter Tryz.func11, Tryz.ntmps11
  go_wp2_with fail
  generalize (w.alloc (.cells #[.int .i64 d.o, .string ⟨d.s.toArray⟩, .string ⟨d.t.toArray⟩, .int .i64 d.k, .slice A d.u.length c] 31)) = w1 at *
  go_wp2_with fail
  (with_reducible refine (hpk _).mono ?_)
  rintro _ _ ⟨rfl, rfl⟩
  clear hb0
  go_wp2_with fail
  have sd0 := sd.below (Below.refl _ _).drew
  refine wp_region_held_drew (S := fun w' => w'.cell? ⟨gd, 0, none⟩ = some (.pointer (some ⟨D, 0, none⟩)) ∧ w'.cell? ⟨gx, 0, none⟩ = some (.pointer (some ⟨X, 0, none⟩))) (by kernel_rfl) ⟨sd0.cs.1, sd0.cs.2.1⟩ (fun hS => ?_)
  have hb2 := hb1.drew
  clear sd hb1
  generalize w1.drew = w2 at *
  refine wpAnyH_take (i := 0) (v := ?_) rfl (by kernel_rfl) (by kernel_rfl) (by kernel_rfl) (fun _ _ _ h => h) (Or.inl ⟨by rfl, ?_⟩) hS ?_
  rotate_left 1
  · intro w' hSw
    go_simp <;> with_reducible rfl
  try simp only [List.getElem_toArray, List.getElem_cons_zero, List.getElem_cons_succ, Act.put, List.setIfInBounds_toArray, List.set_cons_zero, List.set_cons_succ]
  refine wpAnyH_take (i := 1) (v := ?_) rfl (by kernel_rfl) (by kernel_rfl) (by kernel_rfl) (fun _ _ _ h => h) (Or.inl ⟨by rfl, ?_⟩) hS ?_
  rotate_left 1
  · intro w' hSw
    go_simp <;> with_reducible rfl
  try simp only [List.getElem_toArray, List.getElem_cons_zero, List.getElem_cons_succ, Act.put, List.setIfInBounds_toArray, List.set_cons_zero, List.set_cons_succ]
  refine wpAnyH_take (i := 2) (v := ?_) rfl (by kernel_rfl) (by kernel_rfl) (by kernel_rfl) (fun _ _ _ h => h) (Or.inl ⟨by rfl, ?_⟩) hS ?_
  rotate_left 1
  · intro w' hSw
    go_simp <;> with_reducible rfl
  try simp only [List.getElem_toArray, List.getElem_cons_zero, List.getElem_cons_succ, Act.put, List.setIfInBounds_toArray, List.set_cons_zero, List.set_cons_succ]
  refine wpAnyH_take (i := 4) (v := ?_) rfl (by kernel_rfl) (by kernel_rfl) (by kernel_rfl) (fun _ _ _ h => h) (Or.inl ⟨by rfl, ?_⟩) hS ?_
  rotate_left 1
  · intro w' hSw
    go_simp <;> with_reducible rfl
  try simp only [List.getElem_toArray, List.getElem_cons_zero, List.getElem_cons_succ, Act.put, List.setIfInBounds_toArray, List.set_cons_zero, List.set_cons_succ]
  refine wpAnyH_take (i := 5) (v := ?_) rfl (by kernel_rfl) (by kernel_rfl) (by kernel_rfl) (fun _ _ _ h => h) (Or.inl ⟨by rfl, ?_⟩) hS ?_
  rotate_left 1
  · intro w' hSw
    go_simp <;> with_reducible rfl
  try simp only [List.getElem_toArray, List.getElem_cons_zero, List.getElem_cons_succ, Act.put, List.setIfInBounds_toArray, List.set_cons_zero, List.set_cons_succ]
  refine wpAnyH_take (i := 6) (v := ?_) rfl (by kernel_rfl) (by kernel_rfl) (by kernel_rfl) (fun _ _ _ h => h) (Or.inl ⟨by rfl, ?_⟩) hS ?_
  rotate_left 1
  · intro w' hSw
    go_simp <;> with_reducible rfl
  try simp only [List.getElem_toArray, List.getElem_cons_zero, List.getElem_cons_succ, Act.put, List.setIfInBounds_toArray, List.set_cons_zero, List.set_cons_succ]
  refine wpAnyH_ready (rs := [3]) (by kernel_rfl) (by simp) (AllReadyH.cons rfl (fun K hK => ?_) AllReadyH.nil)
  go_simp
  obtain ⟨B, BR, hpr⟩ := sd0.two
  (with_reducible refine (op_copy hpr.db hn1).mono ?_)
  rintro _ w3 ⟨D2, rfl, ⟨B2, hB2, hdb2⟩, hb3⟩
  rw [HMX.out] at hdb2
  have sd1 := sd0.below hb3
  go_simp
  refine hK _ _ ⟨sd1.cs.1, sd1.cs.2.1⟩ (fun hS => ?_)
  clear hK K
  try simp only [List.getElem_toArray, List.getElem_cons_zero, List.getElem_cons_succ, Act.put, List.setIfInBounds_toArray, List.set_cons_zero, List.set_cons_succ]
  refine wpAnyH_ready (rs := [7]) (by kernel_rfl) (by simp) (AllReadyH.cons rfl (fun K hK => ?_) AllReadyH.nil)
  go_simp
  obtain ⟨B', BR', hpr1⟩ := sd1.two
  (with_reducible refine (rop_copy hpr1.rd).mono ?_)
  rintro _ w4 ⟨X2, rfl, ⟨BR2, hBR2, hrd2⟩, hb4⟩
  have sd2 := sd1.below hb4
  clear hpr1
  go_simp
  refine hK _ _ ⟨sd2.cs.1, sd2.cs.2.1⟩ (fun hS => ?_)
  clear hK K
  try simp only [List.getElem_toArray, List.getElem_cons_zero, List.getElem_cons_succ, Act.put, List.setIfInBounds_toArray, List.set_cons_zero, List.set_cons_succ]
  refine wpAnyH_take (i := 8) (v := ?_) rfl (by kernel_rfl) (by kernel_rfl) (by kernel_rfl) (fun _ _ _ h => h) (Or.inl ⟨by rfl, ?_⟩) hS ?_
  rotate_left 1
  · intro w' hSw
    go_simp <;> with_reducible rfl
  try simp only [List.getElem_toArray, List.getElem_cons_zero, List.getElem_cons_succ, Act.put, List.setIfInBounds_toArray, List.set_cons_zero, List.set_cons_succ]
  refine wpAnyH_take (i := 9) (v := ?_) rfl (by kernel_rfl) (by kernel_rfl) (by kernel_rfl) (fun _ _ _ h => h) (Or.inl ⟨by rfl, ?_⟩) hS ?_
  rotate_left 1
  · intro w' hSw
    go_simp <;> with_reducible rfl
  try simp only [List.getElem_toArray, List.getElem_cons_zero, List.getElem_cons_succ, Act.put, List.setIfInBounds_toArray, List.set_cons_zero, List.set_cons_succ]
  refine wpAnyH_done (by kernel_rfl) ?_ _
  clear hS
  have hbb : Below w2.heap.size w2 w4 := hb3.trans (hb4.mono hb3.size)
  have hs2 := hb2.size
  have hs3 := hb3.size
  have hs4 := hb4.size
  have hpr4 : Pr (fun j => (F j ∨ j = w.heap.size) ∨ B2 j ∨ BR2 j) D X room L L n w4 := Pr.guard (F' := fun j => (F j ∨ j = w.heap.size) ∨ B2 j ∨ BR2 j) ⟨B, BR, hpr⟩ hbb (fun j q => by
    rcases q with q | q | q
    · exact .inl q
    · have := hB2 j q
      have := hdb2.lt q
      right; omega
    · have := hBR2 j q
      have := hrd2.lt q
      right; omega)
  have hin4 : PIn (fun j => B2 j ∨ BR2 j) D2 X2 room L n w4 := ⟨B2, BR2, hdb2.below hb4, hrd2, fun j q q' => by have := hBR2 j q; have := hdb2.lt q'; omega, fun j q => .inl q, fun j q => .inr q⟩
  have hr4 := sd2.rws
  have HK := Lib.hid (fun j (q : B2 j ∨ BR2 j) => show w2.heap.size ≤ j from q.elim (hB2 j) (fun q => Nat.le_trans hs3 (hBR2 j q)))
  have HBB := Lib.hid hbb
  have HB2 := Lib.hid hb2
  clear hpr hB2 hBR2 hdb2 hrd2 hbb hb2 hb3 hb4 sd0 sd1 sd2 hpl
  go_wp2_with fail
  have hr4d : Rws gd gx (.pointer (some ⟨D, 0, none⟩)) d1 (.pointer (some ⟨X, 0, none⟩)) x1 w4.drew := ⟨hr4.d, hr4.x⟩
  have hs4d : w4.drew.heap.size = w4.heap.size := rfl
  obtain ⟨v0, v1, v2, v3⟩ := hr4d.cells
  have y0 := hr4d.d.frozen 0
  have y1 := hr4d.d.frozen 1
  have y2 := hr4d.x.frozen 0
  have y3 := hr4d.x.frozen 1
  have hpr5 : Pr (fun j => (F j ∨ j = w.heap.size) ∨ B2 j ∨ BR2 j) D X room L L n w4.drew := hpr4.other (Nat.le_refl _) (fun _ _ _ => rfl)
  have hin5 : PIn (fun j => B2 j ∨ BR2 j) D2 X2 room L n w4.drew := hin4.ag (Ag.refl _ _).drew
  have HBB5 : Hid (Below w2.heap.size w2 w4.drew) := Lib.hid HBB.out.drew
  clear hr4 hpr4 hin4 hs4d
  refine wp_region_held_drew (S := fun w' => w'.cell? ⟨gd, 0, none⟩ = some (.pointer (some ⟨D, 0, none⟩)) ∧ w'.cell? ⟨gx, 0, none⟩ = some (.pointer (some ⟨X, 0, none⟩))) (by kernel_rfl) ⟨v0, v2⟩ (fun hS => ?_)
  generalize w4.drew = w5 at *
  have hrA := hr4d.setd1 hgg (.pointer (some ⟨D, 0, none⟩))
  have hrB := hrA.setx1 hgg (.pointer (some ⟨X, 0, none⟩))
  have hrC := hrB.setd0 hgg (.pointer (some ⟨D2, 0, none⟩))
  have hr6 := hrC.setx0 hgg (.pointer (some ⟨X2, 0, none⟩))
  have y4 := hrA.x.frozen 1
  have v4 := hrA.cells.2.2.2
  have y5 := hrB.d.frozen 0
  have v5 := hrB.cells.1
  have y6 := hrC.x.frozen 0
  have v6 := hrC.cells.2.2.1
  have hf5 : ∀ j, j ≠ gd → j ≠ gx → ((((w5.setCell ⟨gd, 1, none⟩ (.pointer (some ⟨D, 0, none⟩))).setCell ⟨gx, 1, none⟩ (.pointer (some ⟨X, 0, none⟩))).setCell ⟨gd, 0, none⟩ (.pointer (some ⟨D2, 0, none⟩))).setCell ⟨gx, 0, none⟩ (.pointer (some ⟨X2, 0, none⟩))).heap[j]? = w5.heap[j]? := fun j j1 j2 =>
    (Below.heap_setCell _ _ _ j j2).trans ((Below.heap_setCell _ _ _ j j1).trans ((Below.heap_setCell _ _ _ j j2).trans (Below.heap_setCell _ _ _ j j1)))
  have hz5 : ((((w5.setCell ⟨gd, 1, none⟩ (.pointer (some ⟨D, 0, none⟩))).setCell ⟨gx, 1, none⟩ (.pointer (some ⟨X, 0, none⟩))).setCell ⟨gd, 0, none⟩ (.pointer (some ⟨D2, 0, none⟩))).setCell ⟨gx, 0, none⟩ (.pointer (some ⟨X2, 0, none⟩))).heap.size = w5.heap.size := by simp [World.setCell]
  have HR6 := Lib.hid hr6
  have hpr6 := hpr5.other (Nat.le_of_eq hz5.symm) (fun j j1 j2 => hf5 j (fun e => j2 (.inl (.inl (e ▸ HFd.out)))) (fun e => j2 (.inl (.inl (e ▸ HFx.out)))))
  have hin6 := hin5.ag (w' := ((((w5.setCell ⟨gd, 1, none⟩ (.pointer (some ⟨D, 0, none⟩))).setCell ⟨gx, 1, none⟩ (.pointer (some ⟨X, 0, none⟩))).setCell ⟨gd, 0, none⟩ (.pointer (some ⟨D2, 0, none⟩))).setCell ⟨gx, 0, none⟩ (.pointer (some ⟨X2, 0, none⟩)))) ⟨rfl, rfl, rfl, Nat.le_of_eq hz5.symm, fun j j1 j2 => hf5 j (fun e => by have := HK.out j j2; omega) (fun e => by have := HK.out j j2; omega)⟩
  have hag6 : Hid (Ag (fun j => F j ∧ j ≠ gd ∧ j ≠ gx) w ((((w5.setCell ⟨gd, 1, none⟩ (.pointer (some ⟨D, 0, none⟩))).setCell ⟨gx, 1, none⟩ (.pointer (some ⟨X, 0, none⟩))).setCell ⟨gd, 0, none⟩ (.pointer (some ⟨D2, 0, none⟩))).setCell ⟨gx, 0, none⟩ (.pointer (some ⟨X2, 0, none⟩)))) := Lib.hid (((Ag.of_below _ HB2.out).trans (Ag.of_below _ HBB5.out)).trans ⟨rfl, rfl, rfl, Nat.le_of_eq hz5.symm, fun j _ j2 => hf5 j j2.2.1 j2.2.2⟩)
  have HP6 := Lib.hid hpr6
  have HI6 := Lib.hid hin6
  have HS6 := Lib.hid (Nat.le_trans HB2.out.size (Nat.le_trans HBB5.out.size (Nat.le_of_eq hz5.symm)))
  have hgg2 := hgg.symm
  refine wpAnyH_take (i := 0) (v := ?_) rfl (by kernel_rfl) (by kernel_rfl) (by kernel_rfl) (fun _ _ _ h => h) (Or.inl ⟨by rfl, ?_⟩) hS ?_
  rotate_left 1
  · intro w' hSw
    go_simp <;> with_reducible rfl
  try simp only [List.getElem_toArray, List.getElem_cons_zero, List.getElem_cons_succ, Act.put, List.setIfInBounds_toArray, List.set_cons_zero, List.set_cons_succ]
  refine wpAnyH_take (i := 1) (v := ?_) rfl (by kernel_rfl) (by kernel_rfl) (by kernel_rfl) (fun _ _ _ h => h) (Or.inl ⟨by rfl, ?_⟩) hS ?_
  rotate_left 1
  · intro w' hSw
    go_simp <;> with_reducible rfl
  try simp only [List.getElem_toArray, List.getElem_cons_zero, List.getElem_cons_succ, Act.put, List.setIfInBounds_toArray, List.set_cons_zero, List.set_cons_succ]
  refine wpAnyH_take (i := 2) (v := ?_) rfl (by kernel_rfl) (by kernel_rfl) (by kernel_rfl) (fun _ _ _ h => h) (Or.inl ⟨by rfl, ?_⟩) hS ?_
  rotate_left 1
  · intro w' hSw
    go_simp <;> with_reducible rfl
  try simp only [List.getElem_toArray, List.getElem_cons_zero, List.getElem_cons_succ, Act.put, List.setIfInBounds_toArray, List.set_cons_zero, List.set_cons_succ]
  refine wpAnyH_take (i := 3) (v := ?_) rfl (by kernel_rfl) (by kernel_rfl) (by kernel_rfl) (fun _ _ _ h => h) (Or.inl ⟨by rfl, ?_⟩) hS ?_
  rotate_left 1
  · intro w' hSw
    go_simp <;> with_reducible rfl
  try simp only [List.getElem_toArray, List.getElem_cons_zero, List.getElem_cons_succ, Act.put, List.setIfInBounds_toArray, List.set_cons_zero, List.set_cons_succ]
  refine wpAnyH_take (i := 4) (v := ?_) rfl (by kernel_rfl) (by kernel_rfl) (by kernel_rfl) (fun _ _ _ h => h) (Or.inl ⟨by rfl, ?_⟩) hS ?_
  rotate_left 1
  · intro w' hSw
    go_simp <;> with_reducible rfl
  try simp only [List.getElem_toArray, List.getElem_cons_zero, List.getElem_cons_succ, Act.put, List.setIfInBounds_toArray, List.set_cons_zero, List.set_cons_succ]
  refine wpAnyH_take (i := 5) (v := ?_) rfl (by kernel_rfl) (by kernel_rfl) (by kernel_rfl) (fun _ _ _ h => h) (Or.inl ⟨by rfl, ?_⟩) hS ?_
  rotate_left 1
  · intro w' hSw
    go_simp <;> with_reducible rfl
  try simp only [List.getElem_toArray, List.getElem_cons_zero, List.getElem_cons_succ, Act.put, List.setIfInBounds_toArray, List.set_cons_zero, List.set_cons_succ]
  refine wpAnyH_take (i := 6) (v := ?_) rfl (by kernel_rfl) (by kernel_rfl) (by kernel_rfl) (fun _ _ _ h => h) (Or.inl ⟨by rfl, ?_⟩) hS ?_
  rotate_left 1
  · intro w' hSw
    go_simp <;> with_reducible rfl
  try simp only [List.getElem_toArray, List.getElem_cons_zero, List.getElem_cons_succ, Act.put, List.setIfInBounds_toArray, List.set_cons_zero, List.set_cons_succ]
  refine wpAnyH_take (i := 7) (v := ?_) rfl (by kernel_rfl) (by kernel_rfl) (by kernel_rfl) (fun _ _ _ h => h) (Or.inl ⟨by rfl, ?_⟩) hS ?_
  rotate_left 1
  · intro w' hSw
    go_simp <;> with_reducible rfl
  try simp only [List.getElem_toArray, List.getElem_cons_zero, List.getElem_cons_succ, Act.put, List.setIfInBounds_toArray, List.set_cons_zero, List.set_cons_succ]
  refine wpAnyH_take (i := 8) (v := ?_) rfl (by kernel_rfl) (by kernel_rfl) (by kernel_rfl) (fun _ _ _ h => h) (Or.inl ⟨by rfl, ?_⟩) hS ?_
  rotate_left 1
  · intro w' hSw
    go_simp <;> with_reducible rfl
  try simp only [List.getElem_toArray, List.getElem_cons_zero, List.getElem_cons_succ, Act.put, List.setIfInBounds_toArray, List.set_cons_zero, List.set_cons_succ]
  refine wpAnyH_ready (rs := [9]) (by kernel_rfl) (by simp) (AllReadyH.cons rfl (fun K hK => ?_) AllReadyH.nil)
  go_simp
  refine hK _ _ ⟨hrA.cells.1, hrA.cells.2.2.1⟩ (fun hS => ?_)
  clear hK K
  try simp only [List.getElem_toArray, List.getElem_cons_zero, List.getElem_cons_succ, Act.put, List.setIfInBounds_toArray, List.set_cons_zero, List.set_cons_succ]
  refine wpAnyH_take (i := 10) (v := ?_) rfl (by kernel_rfl) (by kernel_rfl) (by kernel_rfl) (fun _ _ _ h => h) (Or.inl ⟨by rfl, ?_⟩) hS ?_
  rotate_left 1
  · intro w' hSw
    go_simp <;> with_reducible rfl
  try simp only [List.getElem_toArray, List.getElem_cons_zero, List.getElem_cons_succ, Act.put, List.setIfInBounds_toArray, List.set_cons_zero, List.set_cons_succ]
  refine wpAnyH_ready (rs := [11]) (by kernel_rfl) (by simp) (AllReadyH.cons rfl (fun K hK => ?_) AllReadyH.nil)
  go_simp
  refine hK _ _ ⟨hrB.cells.1, hrB.cells.2.2.1⟩ (fun hS => ?_)
  clear hK K
  try simp only [List.getElem_toArray, List.getElem_cons_zero, List.getElem_cons_succ, Act.put, List.setIfInBounds_toArray, List.set_cons_zero, List.set_cons_succ]
  refine wpAnyH_done (by kernel_rfl) ?_ _
  clear hpr5 hin5 hr4d hpr6 hin6 hr6 hf5 hz5 hs2 hs3 hs4
  go_wp2_with fail
  have hE : ((appE room L cpS [1, 2]) == (appE room L cpS [1, 2])) = true := beq_self_eq_true _
  generalize ((((w5.setCell ⟨gd, 1, none⟩ (.pointer (some ⟨D, 0, none⟩))).setCell ⟨gx, 1, none⟩ (.pointer (some ⟨X, 0, none⟩))).setCell ⟨gd, 0, none⟩ (.pointer (some ⟨D2, 0, none⟩))).setCell ⟨gx, 0, none⟩ (.pointer (some ⟨X2, 0, none⟩))) = w6 at *
  obtain ⟨F3, hF3⟩ : ∃ F3, Hid (F3 = fun j => (F j ∨ j = w.heap.size) ∨ B2 j ∨ BR2 j) := ⟨_, Lib.hid rfl⟩
  have hF3d : F3 gd := by rw [hF3.out]; exact .inl (.inl HFd.out)
  have hF3x : F3 gx := by rw [hF3.out]; exact .inl (.inl HFx.out)
  have cc : Cc F3 D X room L L n (fun _ => False) w6 w6.drew := ⟨F3, fun _ q => q, by rw [hF3.out]; exact HP6.out.other (Nat.le_refl _) (fun _ _ _ => rfl), (fun g q => q.elim), (Ag.refl _ _).drew⟩
  have hcs : ∀ {L L2 : List FE} {n : Nat} {G : Nat → Prop} {W : World}, Cc F3 D X room L L2 n G w6 W → W.cell? ⟨gd, 1, none⟩ = some (.pointer (some ⟨D, 0, none⟩)) ∧ W.cell? ⟨gx, 1, none⟩ = some (.pointer (some ⟨X, 0, none⟩)) := fun q => by
    have r := (q.rws HR6.out hF3d hF3x).cells
    exact ⟨r.2.1, r.2.2.2⟩
  refine wp_region_held_drew (S := fun w' => w'.cell? ⟨gd, 1, none⟩ = some (.pointer (some ⟨D, 0, none⟩)) ∧ w'.cell? ⟨gx, 1, none⟩ = some (.pointer (some ⟨X, 0, none⟩))) (by kernel_rfl) (hcs cc) (fun hS => ?_)
  generalize w6.drew = wd at *
  refine wpAnyH_take (i := 0) (v := ?_) rfl (by kernel_rfl) (by kernel_rfl) (by kernel_rfl) (fun _ _ _ h => h) (Or.inl ⟨by rfl, ?_⟩) hS ?_
  rotate_left 1
  · intro w' hSw
    go_simp <;> with_reducible rfl
  try simp only [List.getElem_toArray, List.getElem_cons_zero, List.getElem_cons_succ, Act.put, List.setIfInBounds_toArray, List.set_cons_zero, List.set_cons_succ]
  refine wpAnyH_take (i := 1) (v := ?_) rfl (by kernel_rfl) (by kernel_rfl) (by kernel_rfl) (fun _ _ _ h => h) (Or.inl ⟨by rfl, ?_⟩) hS ?_
  rotate_left 1
  · intro w' hSw
    go_simp <;> with_reducible rfl
  try simp only [List.getElem_toArray, List.getElem_cons_zero, List.getElem_cons_succ, Act.put, List.setIfInBounds_toArray, List.set_cons_zero, List.set_cons_succ]
  refine wpAnyH_take (i := 2) (v := ?_) rfl (by kernel_rfl) (by kernel_rfl) (by kernel_rfl) (fun _ _ _ h => h) (Or.inl ⟨by rfl, ?_⟩) hS ?_
  rotate_left 1
  · intro w' hSw
    go_simp <;> with_reducible rfl
  try simp only [List.getElem_toArray, List.getElem_cons_zero, List.getElem_cons_succ, Act.put, List.setIfInBounds_toArray, List.set_cons_zero, List.set_cons_succ]
  refine wpAnyH_take (i := 5) (v := ?_) rfl (by kernel_rfl) (by kernel_rfl) (by kernel_rfl) (fun _ _ _ h => h) (Or.inl ⟨by rfl, ?_⟩) hS ?_
  rotate_left 1
  · intro w' hSw
    go_simp <;> with_reducible rfl
  try simp only [List.getElem_toArray, List.getElem_cons_zero, List.getElem_cons_succ, Act.put, List.setIfInBounds_toArray, List.set_cons_zero, List.set_cons_succ]
  refine wpAnyH_take (i := 6) (v := ?_) rfl (by kernel_rfl) (by kernel_rfl) (by kernel_rfl) (fun _ _ _ h => h) (Or.inl ⟨by rfl, ?_⟩) hS ?_
  rotate_left 1
  · intro w' hSw
    go_simp <;> with_reducible rfl
  try simp only [List.getElem_toArray, List.getElem_cons_zero, List.getElem_cons_succ, Act.put, List.setIfInBounds_toArray, List.set_cons_zero, List.set_cons_succ]
  refine wpAnyH_take (i := 7) (v := ?_) rfl (by kernel_rfl) (by kernel_rfl) (by kernel_rfl) (fun _ _ _ h => h) (Or.inl ⟨by rfl, ?_⟩) hS ?_
  rotate_left 1
  · intro w' hSw
    go_simp <;> with_reducible rfl
  try simp only [List.getElem_toArray, List.getElem_cons_zero, List.getElem_cons_succ, Act.put, List.setIfInBounds_toArray, List.set_cons_zero, List.set_cons_succ]
  refine wpAnyH_ready (rs := [3, 8]) (by kernel_rfl) (by simp) (AllReadyH.cons rfl (fun K hK => ?_) (AllReadyH.cons rfl (fun K hK => ?_) AllReadyH.nil))
  · go_simp
    have cc := cc.new
    refine hK _ _ (hcs cc) (fun hS => ?_)
    clear hK K
    try simp only [List.getElem_toArray, List.getElem_cons_zero, List.getElem_cons_succ, Act.put, List.setIfInBounds_toArray, List.set_cons_zero, List.set_cons_succ]
    refine wpAnyH_ready (rs := [4, 8]) (by kernel_rfl) (by simp) (AllReadyH.cons rfl (fun K hK => ?_) (AllReadyH.cons rfl (fun K hK => ?_) AllReadyH.nil))
    · go_simp
      (with_reducible refine (cc.app hn1 _ (by first | exact .inr rfl | exact .inl (.inr rfl) | exact .inr (by simp) | exact .inl (.inr (by simp)))).mono ?_)
      rintro _ w7 ⟨rfl, cc⟩
      go_simp
      refine hK _ _ (hcs cc) (fun hS => ?_)
      clear hK K
      try simp only [List.getElem_toArray, List.getElem_cons_zero, List.getElem_cons_succ, Act.put, List.setIfInBounds_toArray, List.set_cons_zero, List.set_cons_succ]
      refine wpAnyH_ready (rs := [8]) (by kernel_rfl) (by simp) (AllReadyH.cons rfl (fun K hK => ?_) AllReadyH.nil)
      go_simp
      have cc := cc.new
      refine hK _ _ (hcs cc) (fun hS => ?_)
      clear hK K
      try simp only [List.getElem_toArray, List.getElem_cons_zero, List.getElem_cons_succ, Act.put, List.setIfInBounds_toArray, List.set_cons_zero, List.set_cons_succ]
      refine wpAnyH_ready (rs := [9]) (by kernel_rfl) (by simp) (AllReadyH.cons rfl (fun K hK => ?_) AllReadyH.nil)
      go_simp
      (with_reducible refine (cc.rapp cc.plain hn2 _ (by first | exact .inr rfl | exact .inl (.inr rfl) | exact .inr (by simp) | exact .inl (.inr (by simp)))).mono ?_)
      rintro _ w8 ⟨rfl, cc⟩
      go_simp
      refine hK _ _ (hcs cc) (fun hS => ?_)
      clear hK K
      try simp only [List.getElem_toArray, List.getElem_cons_zero, List.getElem_cons_succ, Act.put, List.setIfInBounds_toArray, List.set_cons_zero, List.set_cons_succ]
      refine wpAnyH_take (i := 10) (v := ?_) rfl (by kernel_rfl) (by kernel_rfl) (by kernel_rfl) (fun _ _ _ h => h) (Or.inl ⟨by rfl, ?_⟩) hS ?_
      rotate_left 1
      · intro w' hSw
        go_simp <;> with_reducible rfl
      try simp only [List.getElem_toArray, List.getElem_cons_zero, List.getElem_cons_succ, Act.put, List.setIfInBounds_toArray, List.set_cons_zero, List.set_cons_succ]
      refine wpAnyH_take (i := 11) (v := ?_) rfl (by kernel_rfl) (by kernel_rfl) (by kernel_rfl) (fun _ _ _ h => h) (Or.inl ⟨by rfl, ?_⟩) hS ?_
      rotate_left 1
      · intro w' hSw
        go_simp <;> with_reducible rfl
      try simp only [List.getElem_toArray, List.getElem_cons_zero, List.getElem_cons_succ, Act.put, List.setIfInBounds_toArray, List.set_cons_zero, List.set_cons_succ]
      refine wpAnyH_done (by kernel_rfl) ?_ _
      go_wp2_with fail
      go_ret
      refine ⟨rfl, ?_, ?_⟩
      · obtain ⟨F4, q1, q2, q3, q4⟩ := cc
        have hrw := HR6.out.keep (w' := _) (q4.block gd HR6.out.d.lt hF3d) (q4.block gx HR6.out.x.lt hF3x)
        have hin := HI6.out.ag (q4.mono fun j _ q => by rw [hF3.out]; exact .inr q)
        obtain ⟨Bo, BRo, hpo⟩ := q2
        obtain ⟨Bn, BRn, n1, n2, n3, n4, n5⟩ := hin
        have k4 : ∀ j, (B2 j ∨ BR2 j) → ¬ F j ∧ F4 j := fun j q => ⟨fun e => by have := HK.out j q; have := hlt j e; have := HB2.out.size; omega, q1 j (by rw [hF3.out]; exact .inr q)⟩
        refine ⟨D2, X2, fun j => F j ∨ Bo j ∨ BRo j, ⟨Bn, BRn, n1, n2, n3, fun j q e => ?_, fun j q e => ?_, fun j q => ?_⟩, ⟨Bo, BRo, hpo.db, hpo.rd, hpo.sep, fun j q => .inr (.inl q), fun j q => .inr (.inr q)⟩, fun j q => .inl q, hrw⟩
        · obtain ⟨z1, z2⟩ := k4 j (n4 j q)
          rcases e with e | e | e
          · exact z1 e
          · exact hpo.b0 j e z2
          · exact hpo.r0 j e z2
        · obtain ⟨z1, z2⟩ := k4 j (n5 j q)
          rcases e with e | e | e
          · exact z1 e
          · exact hpo.b0 j e z2
          · exact hpo.r0 j e z2
        · rcases q with q | q | q
          · exact hpo.flt j (q1 j (by rw [hF3.out]; exact .inl (.inl q)))
          · exact hpo.db.lt q
          · exact hpo.rd.lt q
      · obtain ⟨F4, q1, q2, q3, q4⟩ := cc
        exact hag6.out.trans (q4.mono fun j _ q => by rw [hF3.out]; exact .inl (.inl q.1))
    · go_simp
      have cc := cc.new
      refine hK _ _ (hcs cc) (fun hS => ?_)
      clear hK K
      try simp only [List.getElem_toArray, List.getElem_cons_zero, List.getElem_cons_succ, Act.put, List.setIfInBounds_toArray, List.set_cons_zero, List.set_cons_succ]
      refine wpAnyH_ready (rs := [4]) (by kernel_rfl) (by simp) (AllReadyH.cons rfl (fun K hK => ?_) AllReadyH.nil)
      go_simp
      (with_reducible refine (cc.app hn1 _ (by first | exact .inr rfl | exact .inl (.inr rfl) | exact .inr (by simp) | exact .inl (.inr (by simp)))).mono ?_)
      rintro _ w7 ⟨rfl, cc⟩
      go_simp
      refine hK _ _ (hcs cc) (fun hS => ?_)
      clear hK K
      try simp only [List.getElem_toArray, List.getElem_cons_zero, List.getElem_cons_succ, Act.put, List.setIfInBounds_toArray, List.set_cons_zero, List.set_cons_succ]
      refine wpAnyH_ready (rs := [9]) (by kernel_rfl) (by simp) (AllReadyH.cons rfl (fun K hK => ?_) AllReadyH.nil)
      go_simp
      (with_reducible refine (cc.rapp cc.plain hn2 _ (by first | exact .inr rfl | exact .inl (.inr rfl) | exact .inr (by simp) | exact .inl (.inr (by simp)))).mono ?_)
      rintro _ w8 ⟨rfl, cc⟩
      go_simp
      refine hK _ _ (hcs cc) (fun hS => ?_)
      clear hK K
      try simp only [List.getElem_toArray, List.getElem_cons_zero, List.getElem_cons_succ, Act.put, List.setIfInBounds_toArray, List.set_cons_zero, List.set_cons_succ]
      refine wpAnyH_take (i := 10) (v := ?_) rfl (by kernel_rfl) (by kernel_rfl) (by kernel_rfl) (fun _ _ _ h => h) (Or.inl ⟨by rfl, ?_⟩) hS ?_
      rotate_left 1
      · intro w' hSw
        go_simp <;> with_reducible rfl
      try simp only [List.getElem_toArray, List.getElem_cons_zero, List.getElem_cons_succ, Act.put, List.setIfInBounds_toArray, List.set_cons_zero, List.set_cons_succ]
      refine wpAnyH_take (i := 11) (v := ?_) rfl (by kernel_rfl) (by kernel_rfl) (by kernel_rfl) (fun _ _ _ h => h) (Or.inl ⟨by rfl, ?_⟩) hS ?_
      rotate_left 1
      · intro w' hSw
        go_simp <;> with_reducible rfl
      try simp only [List.getElem_toArray, List.getElem_cons_zero, List.getElem_cons_succ, Act.put, List.setIfInBounds_toArray, List.set_cons_zero, List.set_cons_succ]
      refine wpAnyH_done (by kernel_rfl) ?_ _
      go_wp2_with fail
      go_ret
      refine ⟨rfl, ?_, ?_⟩
      · obtain ⟨F4, q1, q2, q3, q4⟩ := cc
        have hrw := HR6.out.keep (w' := _) (q4.block gd HR6.out.d.lt hF3d) (q4.block gx HR6.out.x.lt hF3x)
        have hin := HI6.out.ag (q4.mono fun j _ q => by rw [hF3.out]; exact .inr q)
        obtain ⟨Bo, BRo, hpo⟩ := q2
        obtain ⟨Bn, BRn, n1, n2, n3, n4, n5⟩ := hin
        have k4 : ∀ j, (B2 j ∨ BR2 j) → ¬ F j ∧ F4 j := fun j q => ⟨fun e => by have := HK.out j q; have := hlt j e; have := HB2.out.size; omega, q1 j (by rw [hF3.out]; exact .inr q)⟩
        refine ⟨D2, X2, fun j => F j ∨ Bo j ∨ BRo j, ⟨Bn, BRn, n1, n2, n3, fun j q e => ?_, fun j q e => ?_, fun j q => ?_⟩, ⟨Bo, BRo, hpo.db, hpo.rd, hpo.sep, fun j q => .inr (.inl q), fun j q => .inr (.inr q)⟩, fun j q => .inl q, hrw⟩
        · obtain ⟨z1, z2⟩ := k4 j (n4 j q)
          rcases e with e | e | e
          · exact z1 e
          · exact hpo.b0 j e z2
          · exact hpo.r0 j e z2
        · obtain ⟨z1, z2⟩ := k4 j (n5 j q)
          rcases e with e | e | e
          · exact z1 e
          · exact hpo.b0 j e z2
          · exact hpo.r0 j e z2
        · rcases q with q | q | q
          · exact hpo.flt j (q1 j (by rw [hF3.out]; exact .inl (.inl q)))
          · exact hpo.db.lt q
          · exact hpo.rd.lt q
      · obtain ⟨F4, q1, q2, q3, q4⟩ := cc
        exact hag6.out.trans (q4.mono fun j _ q => by rw [hF3.out]; exact .inl (.inl q.1))
  · go_simp
    have cc := cc.new
    refine hK _ _ (hcs cc) (fun hS => ?_)
    clear hK K
    try simp only [List.getElem_toArray, List.getElem_cons_zero, List.getElem_cons_succ, Act.put, List.setIfInBounds_toArray, List.set_cons_zero, List.set_cons_succ]
    refine wpAnyH_ready (rs := [3]) (by kernel_rfl) (by simp) (AllReadyH.cons rfl (fun K hK => ?_) AllReadyH.nil)
    go_simp
    have cc := cc.new
    refine hK _ _ (hcs cc) (fun hS => ?_)
    clear hK K
    try simp only [List.getElem_toArray, List.getElem_cons_zero, List.getElem_cons_succ, Act.put, List.setIfInBounds_toArray, List.set_cons_zero, List.set_cons_succ]
    refine wpAnyH_ready (rs := [4]) (by kernel_rfl) (by simp) (AllReadyH.cons rfl (fun K hK => ?_) AllReadyH.nil)
    go_simp
    (with_reducible refine (cc.app hn1 _ (by first | exact .inr rfl | exact .inl (.inr rfl) | exact .inr (by simp) | exact .inl (.inr (by simp)))).mono ?_)
    rintro _ w7 ⟨rfl, cc⟩
    go_simp
    refine hK _ _ (hcs cc) (fun hS => ?_)
    clear hK K
    try simp only [List.getElem_toArray, List.getElem_cons_zero, List.getElem_cons_succ, Act.put, List.setIfInBounds_toArray, List.set_cons_zero, List.set_cons_succ]
    refine wpAnyH_ready (rs := [9]) (by kernel_rfl) (by simp) (AllReadyH.cons rfl (fun K hK => ?_) AllReadyH.nil)
    go_simp
    (with_reducible refine (cc.rapp cc.plain hn2 _ (by first | exact .inr rfl | exact .inl (.inr rfl) | exact .inr (by simp) | exact .inl (.inr (by simp)))).mono ?_)
    rintro _ w8 ⟨rfl, cc⟩
    go_simp
    refine hK _ _ (hcs cc) (fun hS => ?_)
    clear hK K
    try simp only [List.getElem_toArray, List.getElem_cons_zero, List.getElem_cons_succ, Act.put, List.setIfInBounds_toArray, List.set_cons_zero, List.set_cons_succ]
    refine wpAnyH_take (i := 10) (v := ?_) rfl (by kernel_rfl) (by kernel_rfl) (by kernel_rfl) (fun _ _ _ h => h) (Or.inl ⟨by rfl, ?_⟩) hS ?_
    rotate_left 1
    · intro w' hSw
      go_simp <;> with_reducible rfl
    try simp only [List.getElem_toArray, List.getElem_cons_zero, List.getElem_cons_succ, Act.put, List.setIfInBounds_toArray, List.set_cons_zero, List.set_cons_succ]
    refine wpAnyH_take (i := 11) (v := ?_) rfl (by kernel_rfl) (by kernel_rfl) (by kernel_rfl) (fun _ _ _ h => h) (Or.inl ⟨by rfl, ?_⟩) hS ?_
    rotate_left 1
    · intro w' hSw
      go_simp <;> with_reducible rfl
    try simp only [List.getElem_toArray, List.getElem_cons_zero, List.getElem_cons_succ, Act.put, List.setIfInBounds_toArray, List.set_cons_zero, List.set_cons_succ]
    refine wpAnyH_done (by kernel_rfl) ?_ _
    go_wp2_with fail
    go_ret
    refine ⟨rfl, ?_, ?_⟩
    · obtain ⟨F4, q1, q2, q3, q4⟩ := cc
      have hrw := HR6.out.keep (w' := _) (q4.block gd HR6.out.d.lt hF3d) (q4.block gx HR6.out.x.lt hF3x)
      have hin := HI6.out.ag (q4.mono fun j _ q => by rw [hF3.out]; exact .inr q)
      obtain ⟨Bo, BRo, hpo⟩ := q2
      obtain ⟨Bn, BRn, n1, n2, n3, n4, n5⟩ := hin
      have k4 : ∀ j, (B2 j ∨ BR2 j) → ¬ F j ∧ F4 j := fun j q => ⟨fun e => by have := HK.out j q; have := hlt j e; have := HB2.out.size; omega, q1 j (by rw [hF3.out]; exact .inr q)⟩
      refine ⟨D2, X2, fun j => F j ∨ Bo j ∨ BRo j, ⟨Bn, BRn, n1, n2, n3, fun j q e => ?_, fun j q e => ?_, fun j q => ?_⟩, ⟨Bo, BRo, hpo.db, hpo.rd, hpo.sep, fun j q => .inr (.inl q), fun j q => .inr (.inr q)⟩, fun j q => .inl q, hrw⟩
      · obtain ⟨z1, z2⟩ := k4 j (n4 j q)
        rcases e with e | e | e
        · exact z1 e
        · exact hpo.b0 j e z2
        · exact hpo.r0 j e z2
      · obtain ⟨z1, z2⟩ := k4 j (n5 j q)
        rcases e with e | e | e
        · exact z1 e
        · exact hpo.b0 j e z2
        · exact hpo.r0 j e z2
      · rcases q with q | q | q
        · exact hpo.flt j (q1 j (by rw [hF3.out]; exact .inl (.inl q)))
        · exact hpo.db.lt q
        · exact hpo.rd.lt q
    · obtain ⟨F4, q1, q2, q3, q4⟩ := cc
      exact hag6.out.trans (q4.mono fun j _ q => by rw [hF3.out]; exact .inl (.inl q.1))
end
end Go.Proofs.YtcmbeolicopicaaGreat

