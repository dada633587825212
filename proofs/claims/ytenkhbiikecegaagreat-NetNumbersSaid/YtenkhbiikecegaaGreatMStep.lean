/- net: the law's step. -/
import Derived.Test.YtenkhbiikecegaaGreatMTwo
namespace Go.Proofs.YtenkhbiikecegaaGreat
open Go.RowKit Go.Maps Go.ChangeMaps
set_option linter.unusedVariables false
set_option linter.unusedSimpArgs false
set_option maxRecDepth 100000

theorem box_cells {w : World} {D : Nat} {d : DoV} {A : Option Addr} {c : Nat} (h : Bk w D 30 (doC d A c)) :
    w.cell? ⟨D, 0, none⟩ = some (.int .i64 d.o) ∧ w.cell? ⟨D, 1, none⟩ = some (.int .i64 d.f) ∧ w.cell? ⟨D, 2, none⟩ = some (.int .i64 d.t) ∧ w.cell? ⟨D, 3, none⟩ = some (.int .i64 d.k) ∧ w.cell? ⟨D, 4, none⟩ = some (.slice A d.u.length c) := by
  have h0 := h.cell 0
  have h1 := h.cell 1
  have h2 := h.cell 2
  have h3 := h.cell 3
  have h4 := h.cell 4
  exact ⟨h0, h1, h2, h3, h4⟩
theorem bk_pre {w : World} {g : Nat} {l m : List Int} (h : Bk w g 5 (u8s (l ++ m))) (c : Nat) : Rd w (fun b => b = g) (some ⟨g, 0, none⟩) c (u8s l) := by
  refine ⟨(fun e => by cases e), fun _ => ⟨_, rfl, rfl, fun j u hu => ?_⟩⟩
  have hadd : (⟨g, 0, none⟩ : Addr).add j = ⟨g, j, none⟩ := by unfold Addr.add; split <;> simp_all
  have hj := (List.getElem?_eq_some_iff.1 hu).1
  rw [hadd, h.cell j, u8s_app, List.getElem?_append_left hj, hu]
/-- A step that came in, and its bytes, in memory of F. -/
structure StA (F : Nat → Prop) (d : DoV) (A : Option Addr) (c : Nat) (w : World) : Prop where
  rd : ∃ KA : Nat → Prop, (∀ b, KA b → F b) ∧ Rd w KA A c (u8s (bI d.u))
  len : d.u.length ≤ 500
  i1 : I64 d.f
  i2 : I64 d.t
  i3 : I64 d.k
theorem StA.ag {F : Nat → Prop} {d : DoV} {A : Option Addr} {c : Nat} {w w' : World} (h : StA F d A c w) (ha : Ag F w w') (hlt : ∀ j, F j → j < w.heap.size) : StA F d A c w' := by
  obtain ⟨KA, h1, h2⟩ := h.rd
  exact ⟨⟨KA, h1, h2.keep (fun b q => ha.block b (hlt b (h1 b q)) (h1 b q)) (fun _ q => q)⟩, h.len, h.i1, h.i2, h.i3⟩
/-- Within a step: its own variable lies at D. -/
structure Sd (F : Nat → Prop) (N R X D : Nat) (d : DoV) (A : Option Addr) (c : Nat) (S S2 : Sg) (T T2 : List PV) (m : Nat) (w0 w : World) : Prop where
  two : Two F N R X S S2 T T2 m w
  box : Bk w D 30 (doC d A c)
  arg : StA F d A c w
  fD : F D
  ag : Ag F w0 w
theorem Sd.step {F : Nat → Prop} {N R X D : Nat} {d : DoV} {A : Option Addr} {c : Nat} {S S2 S' S2' : Sg} {T T2 T' T2' : List PV} {m m' : Nat} {w0 w w' : World} (h : Sd F N R X D d A c S S2 T T2 m w0 w) (h2 : Two F N R X S' S2' T' T2' m' w') (ha : Ag F w w') : Sd F N R X D d A c S' S2' T' T2' m' w0 w' :=
  ⟨h2, (ha.block D (h.two.flt D h.fD) h.fD).trans h.box, h.arg.ag ha h.two.flt, h.fD, h.ag.trans (ha.mono fun k hk q => q)⟩
theorem Sd.below {F : Nat → Prop} {N R X D : Nat} {d : DoV} {A : Option Addr} {c : Nat} {S S2 : Sg} {T T2 : List PV} {m : Nat} {w0 w w' : World} (h : Sd F N R X D d A c S S2 T T2 m w0 w) (hb : Below w.heap.size w w') : Sd F N R X D d A c S S2 T T2 m w0 w' :=
  h.step (h.two.below hb) (Ag.of_below F hb)
theorem Sd.start {F : Nat → Prop} {N R X : Nat} {d : DoV} {A : Option Addr} {c : Nat} {S S2 : Sg} {T T2 : List PV} {m : Nat} {w : World} (h : Two F N R X S S2 T T2 m w) (ha : StA F d A c w) :
    Sd (fun j => F j ∨ j = w.heap.size) N R X w.heap.size d A c S S2 T T2 m (w.alloc (.cells #[.int .i64 d.o, .int .i64 d.f, .int .i64 d.t, .int .i64 d.k, .slice A d.u.length c] 30)) (w.alloc (.cells #[.int .i64 d.o, .int .i64 d.f, .int .i64 d.t, .int .i64 d.k, .slice A d.u.length c] 30)) := by
  have hb : Below w.heap.size w (w.alloc (.cells #[.int .i64 d.o, .int .i64 d.f, .int .i64 d.t, .int .i64 d.k, .slice A d.u.length c] 30)) := (Below.refl _ _).alloc (Nat.le_refl _) _
  obtain ⟨KA, h1, h2⟩ := ha.rd
  refine ⟨h.guard hb fun j q => q.imp id (fun e => by rw [World.size_alloc]; omega), Bk.new w _ _, ⟨⟨KA, fun b q => .inl (h1 b q), h2.keep (fun b q => hb.block b (h.flt b (h1 b q))) (fun _ q => q)⟩, ha.len, ha.i1, ha.i2, ha.i3⟩, .inr rfl, Ag.refl _ _⟩
/-- No link has more than it may. -/
def LT (T : List PV) : Prop := ∀ p ∈ T, p.l.length ≤ 1000000
theorem LT.snoc {T : List PV} {p : PV} (h : LT T) (hp : p.l.length ≤ 1000000) : LT (T ++ [p]) := by
  intro q hq
  rcases List.mem_append.1 hq with hq | hq
  · exact h q hq
  · simp at hq; rw [hq]; exact hp
def C64 (S : Sg) : Prop := ∀ x y, (S x y).length ≤ 64
theorem c64_upd {S : Sg} (h : C64 S) (a b : Int) (l : List (List Int)) (hl : l.length ≤ 64) : C64 (upd S a b l) := by
  intro x y
  unfold upd
  split
  · exact hl
  · exact h x y
theorem c64_snd {S : Sg} (h : C64 S) (a b : Int) (l : List Int) : C64 (sndS S a b l) := by
  unfold sndS
  split
  · next e =>
    refine c64_upd h a b _ ?_
    have : ¬ 64 ≤ (S a b).length := fun hf => by
      unfold sndE at e
      split at e
      · cases e
      · first | (cases e; done) | (rw [if_pos hf] at e; cases e)
    simp; omega
  · exact h
theorem c64_tk {S : Sg} (h : C64 S) (a b k : Int) : C64 (tkS S a b k) := by
  unfold tkS
  split
  · refine c64_upd h a b _ ?_
    have := h a b
    rw [List.length_eraseIdx]
    split <;> omega
  · exact h
theorem c64_db {S : Sg} (h : C64 S) (a b k : Int) : C64 (dbS S a b k) := by
  unfold dbS
  split
  · next e =>
    refine c64_upd h a b _ ?_
    have : ¬ 64 ≤ (S a b).length := fun hf => by
      unfold dbE at e
      split at e
      · first | (cases e; done) | (rw [if_pos hf] at e; cases e)
      · cases e
    simp; omega
  · exact h
/-- What a step ends with. -/
def StE (F : Nat → Prop) (N R X : Nat) (S : Sg) (T : List PV) (m : Nat) (w : World) (e : Ending) (w' : World) : Prop := e = .returned (.bool true) ∧ Two F N R X S S T T m w' ∧ Ag F w w'
theorem Sd.stop {F : Nat → Prop} {N R X : Nat} {d : DoV} {A : Option Addr} {c : Nat} {S : Sg} {T : List PV} {m : Nat} {w w1 w' : World} {e : Ending} (h : Sd (fun j => F j ∨ j = w.heap.size) N R X w.heap.size d A c S S T T m w1 w') (he : e = .returned (.bool true)) (hb : Below w.heap.size w w1) (hF : ∀ j, F j → j < w.heap.size) : StE F N R X S T m w e w' :=
  ⟨he, h.two.guard (Below.refl _ _) (fun j q => .inl (.inl q)), (Ag.of_below F hb).trans (h.ag.mono fun k _ q => .inl q)⟩
section
variable {F : Nat → Prop} {N R X : Nat} {d : DoV} {A : Option Addr} {c : Nat} {S : Sg} {T : List PV} {m : Nat} {w : World}
set_option maxHeartbeats 4000000 in
theorem step_drop (hp : pickI d.o 7 = 4) (h : Two F N R X S S T T m w) (ha : StA F d A c w) :
    Calls Tryz.prog 8 #[.pointer (some ⟨N, 0, none⟩), .pointer (some ⟨R, 0, none⟩), .agg #[.int .i64 d.o, .int .i64 d.f, .int .i64 d.t, .int .i64 d.k, .slice A d.u.length c], .pointer (some ⟨X, 0, none⟩)] w (StE F N R X (tkS S d.f d.t d.k) T m w) := by
  have hpk : ∀ W, Calls Tryz.prog 19 #[.int .i64 d.o, .int .i64 7] W fun e w' => e = .returned (.int .i64 4) ∧ W = w' := fun W => by
    have := pick_any d.o 7 W (by decide) (by decide)
    rw [hp] at this
    exact this
  have sd := Sd.start h ha
  have hlt := h.flt
  have hb1 : Below w.heap.size w (w.alloc (.cells #[.int .i64 d.o, .int .i64 d.f, .int .i64 d.t, .int .i64 d.k, .slice A d.u.length c] 30)) := (Below.refl _ _).alloc (Nat.le_refl _) _
  obtain ⟨KA, hKA, hrd⟩ := ha.rd
  obtain ⟨_, hlen, hi1, hi2, hi3⟩ := ha
  have HA := Lib.hid (And.intro hi1 (And.intro hi2 hi3))
  have HP := Lib.hid hp
  clear hp hi1 hi2 hi3
  go_enter Tryz.func8, Tryz.ntmps8
  go_wp2_with fail
  generalize (w.alloc (.cells #[.int .i64 d.o, .int .i64 d.f, .int .i64 d.t, .int .i64 d.k, .slice A d.u.length c] 30)) = w1 at *
  obtain ⟨c0, c1, c2, c3, c4⟩ := box_cells sd.box
  go_wp2_with fail
  (with_reducible refine (hpk _).mono ?_)
  rintro _ _ ⟨rfl, rfl⟩
  go_wp2_with fail
  refine wp_region_held_drew (S := fun w' => w'.cell? ⟨w.heap.size, 0, none⟩ = some (.int .i64 d.o) ∧ w'.cell? ⟨w.heap.size, 1, none⟩ = some (.int .i64 d.f) ∧ w'.cell? ⟨w.heap.size, 2, none⟩ = some (.int .i64 d.t) ∧ w'.cell? ⟨w.heap.size, 3, none⟩ = some (.int .i64 d.k) ∧ w'.cell? ⟨w.heap.size, 4, none⟩ = some (.slice A d.u.length c)) (by kernel_rfl) (box_cells sd.box) (fun hS => ?_)
  refine wpAnyH_take (i := 0) (v := ?_) rfl (by kernel_rfl) (by kernel_rfl) (by kernel_rfl) (fun _ _ _ h => h) (Or.inl ⟨by rfl, ?_⟩) hS ?_
  rotate_left 1
  · intro w' hSw
    go_simp <;> with_reducible rfl
  try simp only [List.getElem_toArray, List.getElem_cons_zero, List.getElem_cons_succ, Act.put, List.setIfInBounds_toArray, List.set_cons_zero, List.set_cons_succ]
  refine wpAnyH_take (i := 1) (v := ?_) rfl (by kernel_rfl) (by kernel_rfl) (by kernel_rfl) (fun _ _ _ h => h) (Or.inl ⟨by rfl, ?_⟩) hS ?_
  rotate_left 1
  · intro w' hSw
    go_simp <;> with_reducible rfl
  try simp only [List.getElem_toArray, List.getElem_cons_zero, List.getElem_cons_succ, Act.put, List.setIfInBounds_toArray, List.set_cons_zero, List.set_cons_succ]
  refine wpAnyH_take (i := 2) (v := ?_) rfl (by kernel_rfl) (by kernel_rfl) (by kernel_rfl) (fun _ _ _ h => h) (Or.inl ⟨by rfl, ?_⟩) hS ?_
  rotate_left 1
  · intro w' hSw
    go_simp <;> with_reducible rfl
  try simp only [List.getElem_toArray, List.getElem_cons_zero, List.getElem_cons_succ, Act.put, List.setIfInBounds_toArray, List.set_cons_zero, List.set_cons_succ]
  refine wpAnyH_take (i := 3) (v := ?_) rfl (by kernel_rfl) (by kernel_rfl) (by kernel_rfl) (fun _ _ _ h => h) (Or.inl ⟨by rfl, ?_⟩) hS ?_
  rotate_left 1
  · intro w' hSw
    go_simp <;> with_reducible rfl
  try simp only [List.getElem_toArray, List.getElem_cons_zero, List.getElem_cons_succ, Act.put, List.setIfInBounds_toArray, List.set_cons_zero, List.set_cons_succ]
  refine wpAnyH_take (i := 4) (v := ?_) rfl (by kernel_rfl) (by kernel_rfl) (by kernel_rfl) (fun _ _ _ h => h) (Or.inl ⟨by rfl, ?_⟩) hS ?_
  rotate_left 1
  · intro w' hSw
    go_simp <;> with_reducible rfl
  try simp only [List.getElem_toArray, List.getElem_cons_zero, List.getElem_cons_succ, Act.put, List.setIfInBounds_toArray, List.set_cons_zero, List.set_cons_succ]
  refine wpAnyH_take (i := 5) (v := ?_) rfl (by kernel_rfl) (by kernel_rfl) (by kernel_rfl) (fun _ _ _ h => h) (Or.inl ⟨by rfl, ?_⟩) hS ?_
  rotate_left 1
  · intro w' hSw
    go_simp <;> with_reducible rfl
  try simp only [List.getElem_toArray, List.getElem_cons_zero, List.getElem_cons_succ, Act.put, List.setIfInBounds_toArray, List.set_cons_zero, List.set_cons_succ]
  refine wpAnyH_take (i := 6) (v := ?_) rfl (by kernel_rfl) (by kernel_rfl) (by kernel_rfl) (fun _ _ _ h => h) (Or.inl ⟨by rfl, ?_⟩) hS ?_
  rotate_left 1
  · intro w' hSw
    go_simp <;> with_reducible rfl
  try simp only [List.getElem_toArray, List.getElem_cons_zero, List.getElem_cons_succ, Act.put, List.setIfInBounds_toArray, List.set_cons_zero, List.set_cons_succ]
  refine wpAnyH_take (i := 8) (v := ?_) rfl (by kernel_rfl) (by kernel_rfl) (by kernel_rfl) (fun _ _ _ h => h) (Or.inl ⟨by rfl, ?_⟩) hS ?_
  rotate_left 1
  · intro w' hSw
    go_simp <;> with_reducible rfl
  try simp only [List.getElem_toArray, List.getElem_cons_zero, List.getElem_cons_succ, Act.put, List.setIfInBounds_toArray, List.set_cons_zero, List.set_cons_succ]
  refine wpAnyH_take (i := 9) (v := ?_) rfl (by kernel_rfl) (by kernel_rfl) (by kernel_rfl) (fun _ _ _ h => h) (Or.inl ⟨by rfl, ?_⟩) hS ?_
  rotate_left 1
  · intro w' hSw
    go_simp <;> with_reducible rfl
  try simp only [List.getElem_toArray, List.getElem_cons_zero, List.getElem_cons_succ, Act.put, List.setIfInBounds_toArray, List.set_cons_zero, List.set_cons_succ]
  refine wpAnyH_take (i := 10) (v := ?_) rfl (by kernel_rfl) (by kernel_rfl) (by kernel_rfl) (fun _ _ _ h => h) (Or.inl ⟨by rfl, ?_⟩) hS ?_
  rotate_left 1
  · intro w' hSw
    go_simp <;> with_reducible rfl
  try simp only [List.getElem_toArray, List.getElem_cons_zero, List.getElem_cons_succ, Act.put, List.setIfInBounds_toArray, List.set_cons_zero, List.set_cons_succ]
  refine wpAnyH_take (i := 11) (v := ?_) rfl (by kernel_rfl) (by kernel_rfl) (by kernel_rfl) (fun _ _ _ h => h) (Or.inl ⟨by rfl, ?_⟩) hS ?_
  rotate_left 1
  · intro w' hSw
    go_simp <;> with_reducible rfl
  try simp only [List.getElem_toArray, List.getElem_cons_zero, List.getElem_cons_succ, Act.put, List.setIfInBounds_toArray, List.set_cons_zero, List.set_cons_succ]
  refine wpAnyH_take (i := 12) (v := ?_) rfl (by kernel_rfl) (by kernel_rfl) (by kernel_rfl) (fun _ _ _ h => h) (Or.inl ⟨by rfl, ?_⟩) hS ?_
  rotate_left 1
  · intro w' hSw
    go_simp <;> with_reducible rfl
  try simp only [List.getElem_toArray, List.getElem_cons_zero, List.getElem_cons_succ, Act.put, List.setIfInBounds_toArray, List.set_cons_zero, List.set_cons_succ]
  refine wpAnyH_take (i := 13) (v := ?_) rfl (by kernel_rfl) (by kernel_rfl) (by kernel_rfl) (fun _ _ _ h => h) (Or.inl ⟨by rfl, ?_⟩) hS ?_
  rotate_left 1
  · intro w' hSw
    go_simp <;> with_reducible rfl
  try simp only [List.getElem_toArray, List.getElem_cons_zero, List.getElem_cons_succ, Act.put, List.setIfInBounds_toArray, List.set_cons_zero, List.set_cons_succ]
  refine wpAnyH_take (i := 14) (v := ?_) rfl (by kernel_rfl) (by kernel_rfl) (by kernel_rfl) (fun _ _ _ h => h) (Or.inl ⟨by rfl, ?_⟩) hS ?_
  rotate_left 1
  · intro w' hSw
    go_simp <;> with_reducible rfl
  try simp only [List.getElem_toArray, List.getElem_cons_zero, List.getElem_cons_succ, Act.put, List.setIfInBounds_toArray, List.set_cons_zero, List.set_cons_succ]
  refine wpAnyH_ready (rs := [7]) (by kernel_rfl) (by simp) (AllReadyH.cons rfl (fun K hK => ?_) AllReadyH.nil)
  go_simp
  (with_reducible refine (two_drop (sd.two.below (Below.refl _ _).drew) d.f d.t HA.out.1 HA.out.2.1 d.k).mono ?_)
  rintro _ w2 ⟨rfl, q1, q2⟩
  have sd1 := (sd.below (Below.refl _ _).drew).step q1 q2
  clear q1 q2
  go_simp
  refine hK _ _ (box_cells sd1.box) (fun hS => ?_)
  clear hK K
  try simp only [List.getElem_toArray, List.getElem_cons_zero, List.getElem_cons_succ, Act.put, List.setIfInBounds_toArray, List.set_cons_zero, List.set_cons_succ]
  refine wpAnyH_ready (rs := [15]) (by kernel_rfl) (by simp) (AllReadyH.cons rfl (fun K hK => ?_) AllReadyH.nil)
  go_simp
  (with_reducible refine (two_rdrop sd1.two d.f d.t d.k HA.out.2.2).mono ?_)
  rintro _ w3 ⟨rfl, q1, q2⟩
  have sd2 := sd1.step q1 q2
  clear q1 q2
  go_simp
  refine hK _ _ (box_cells sd2.box) (fun hS => ?_)
  clear hK K
  try simp only [List.getElem_toArray, List.getElem_cons_zero, List.getElem_cons_succ, Act.put, List.setIfInBounds_toArray, List.set_cons_zero, List.set_cons_succ]
  refine wpAnyH_take (i := 16) (v := ?_) rfl (by kernel_rfl) (by kernel_rfl) (by kernel_rfl) (fun _ _ _ h => h) (Or.inl ⟨by rfl, ?_⟩) hS ?_
  rotate_left 1
  · intro w' hSw
    go_simp <;> with_reducible rfl
  try simp only [List.getElem_toArray, List.getElem_cons_zero, List.getElem_cons_succ, Act.put, List.setIfInBounds_toArray, List.set_cons_zero, List.set_cons_succ]
  refine wpAnyH_take (i := 17) (v := ?_) rfl (by kernel_rfl) (by kernel_rfl) (by kernel_rfl) (fun _ _ _ h => h) (Or.inl ⟨by rfl, ?_⟩) hS ?_
  rotate_left 1
  · intro w' hSw
    go_simp <;> with_reducible rfl
  try simp only [List.getElem_toArray, List.getElem_cons_zero, List.getElem_cons_succ, Act.put, List.setIfInBounds_toArray, List.set_cons_zero, List.set_cons_succ]
  refine wpAnyH_done (by kernel_rfl) ?_ _
  go_wp2_with fail
  go_ret
  exact sd2.stop rfl hb1 hlt
set_option maxHeartbeats 4000000 in
theorem step_double (hp : pickI d.o 7 = 5) (h : Two F N R X S S T T m w) (ha : StA F d A c w) (hm : m + 1 ≤ 1000000) :
    Calls Tryz.prog 8 #[.pointer (some ⟨N, 0, none⟩), .pointer (some ⟨R, 0, none⟩), .agg #[.int .i64 d.o, .int .i64 d.f, .int .i64 d.t, .int .i64 d.k, .slice A d.u.length c], .pointer (some ⟨X, 0, none⟩)] w (StE F N R X (dbS S d.f d.t d.k) T (m + 1) w) := by
  have hpk : ∀ W, Calls Tryz.prog 19 #[.int .i64 d.o, .int .i64 7] W fun e w' => e = .returned (.int .i64 5) ∧ W = w' := fun W => by
    have := pick_any d.o 7 W (by decide) (by decide)
    rw [hp] at this
    exact this
  have sd := Sd.start h ha
  have hlt := h.flt
  have hb1 : Below w.heap.size w (w.alloc (.cells #[.int .i64 d.o, .int .i64 d.f, .int .i64 d.t, .int .i64 d.k, .slice A d.u.length c] 30)) := (Below.refl _ _).alloc (Nat.le_refl _) _
  obtain ⟨KA, hKA, hrd⟩ := ha.rd
  obtain ⟨_, hlen, hi1, hi2, hi3⟩ := ha
  have HA := Lib.hid (And.intro hi1 (And.intro hi2 hi3))
  have HP := Lib.hid hp
  clear hp hi1 hi2 hi3
  go_enter Tryz.func8, Tryz.ntmps8
  go_wp2_with fail
  generalize (w.alloc (.cells #[.int .i64 d.o, .int .i64 d.f, .int .i64 d.t, .int .i64 d.k, .slice A d.u.length c] 30)) = w1 at *
  obtain ⟨c0, c1, c2, c3, c4⟩ := box_cells sd.box
  go_wp2_with fail
  (with_reducible refine (hpk _).mono ?_)
  rintro _ _ ⟨rfl, rfl⟩
  go_wp2_with fail
  refine wp_region_held_drew (S := fun w' => w'.cell? ⟨w.heap.size, 0, none⟩ = some (.int .i64 d.o) ∧ w'.cell? ⟨w.heap.size, 1, none⟩ = some (.int .i64 d.f) ∧ w'.cell? ⟨w.heap.size, 2, none⟩ = some (.int .i64 d.t) ∧ w'.cell? ⟨w.heap.size, 3, none⟩ = some (.int .i64 d.k) ∧ w'.cell? ⟨w.heap.size, 4, none⟩ = some (.slice A d.u.length c)) (by kernel_rfl) (box_cells sd.box) (fun hS => ?_)
  refine wpAnyH_take (i := 0) (v := ?_) rfl (by kernel_rfl) (by kernel_rfl) (by kernel_rfl) (fun _ _ _ h => h) (Or.inl ⟨by rfl, ?_⟩) hS ?_
  rotate_left 1
  · intro w' hSw
    go_simp <;> with_reducible rfl
  try simp only [List.getElem_toArray, List.getElem_cons_zero, List.getElem_cons_succ, Act.put, List.setIfInBounds_toArray, List.set_cons_zero, List.set_cons_succ]
  refine wpAnyH_take (i := 1) (v := ?_) rfl (by kernel_rfl) (by kernel_rfl) (by kernel_rfl) (fun _ _ _ h => h) (Or.inl ⟨by rfl, ?_⟩) hS ?_
  rotate_left 1
  · intro w' hSw
    go_simp <;> with_reducible rfl
  try simp only [List.getElem_toArray, List.getElem_cons_zero, List.getElem_cons_succ, Act.put, List.setIfInBounds_toArray, List.set_cons_zero, List.set_cons_succ]
  refine wpAnyH_take (i := 2) (v := ?_) rfl (by kernel_rfl) (by kernel_rfl) (by kernel_rfl) (fun _ _ _ h => h) (Or.inl ⟨by rfl, ?_⟩) hS ?_
  rotate_left 1
  · intro w' hSw
    go_simp <;> with_reducible rfl
  try simp only [List.getElem_toArray, List.getElem_cons_zero, List.getElem_cons_succ, Act.put, List.setIfInBounds_toArray, List.set_cons_zero, List.set_cons_succ]
  refine wpAnyH_take (i := 3) (v := ?_) rfl (by kernel_rfl) (by kernel_rfl) (by kernel_rfl) (fun _ _ _ h => h) (Or.inl ⟨by rfl, ?_⟩) hS ?_
  rotate_left 1
  · intro w' hSw
    go_simp <;> with_reducible rfl
  try simp only [List.getElem_toArray, List.getElem_cons_zero, List.getElem_cons_succ, Act.put, List.setIfInBounds_toArray, List.set_cons_zero, List.set_cons_succ]
  refine wpAnyH_take (i := 4) (v := ?_) rfl (by kernel_rfl) (by kernel_rfl) (by kernel_rfl) (fun _ _ _ h => h) (Or.inl ⟨by rfl, ?_⟩) hS ?_
  rotate_left 1
  · intro w' hSw
    go_simp <;> with_reducible rfl
  try simp only [List.getElem_toArray, List.getElem_cons_zero, List.getElem_cons_succ, Act.put, List.setIfInBounds_toArray, List.set_cons_zero, List.set_cons_succ]
  refine wpAnyH_take (i := 5) (v := ?_) rfl (by kernel_rfl) (by kernel_rfl) (by kernel_rfl) (fun _ _ _ h => h) (Or.inl ⟨by rfl, ?_⟩) hS ?_
  rotate_left 1
  · intro w' hSw
    go_simp <;> with_reducible rfl
  try simp only [List.getElem_toArray, List.getElem_cons_zero, List.getElem_cons_succ, Act.put, List.setIfInBounds_toArray, List.set_cons_zero, List.set_cons_succ]
  refine wpAnyH_take (i := 6) (v := ?_) rfl (by kernel_rfl) (by kernel_rfl) (by kernel_rfl) (fun _ _ _ h => h) (Or.inl ⟨by rfl, ?_⟩) hS ?_
  rotate_left 1
  · intro w' hSw
    go_simp <;> with_reducible rfl
  try simp only [List.getElem_toArray, List.getElem_cons_zero, List.getElem_cons_succ, Act.put, List.setIfInBounds_toArray, List.set_cons_zero, List.set_cons_succ]
  refine wpAnyH_take (i := 8) (v := ?_) rfl (by kernel_rfl) (by kernel_rfl) (by kernel_rfl) (fun _ _ _ h => h) (Or.inl ⟨by rfl, ?_⟩) hS ?_
  rotate_left 1
  · intro w' hSw
    go_simp <;> with_reducible rfl
  try simp only [List.getElem_toArray, List.getElem_cons_zero, List.getElem_cons_succ, Act.put, List.setIfInBounds_toArray, List.set_cons_zero, List.set_cons_succ]
  refine wpAnyH_take (i := 9) (v := ?_) rfl (by kernel_rfl) (by kernel_rfl) (by kernel_rfl) (fun _ _ _ h => h) (Or.inl ⟨by rfl, ?_⟩) hS ?_
  rotate_left 1
  · intro w' hSw
    go_simp <;> with_reducible rfl
  try simp only [List.getElem_toArray, List.getElem_cons_zero, List.getElem_cons_succ, Act.put, List.setIfInBounds_toArray, List.set_cons_zero, List.set_cons_succ]
  refine wpAnyH_take (i := 10) (v := ?_) rfl (by kernel_rfl) (by kernel_rfl) (by kernel_rfl) (fun _ _ _ h => h) (Or.inl ⟨by rfl, ?_⟩) hS ?_
  rotate_left 1
  · intro w' hSw
    go_simp <;> with_reducible rfl
  try simp only [List.getElem_toArray, List.getElem_cons_zero, List.getElem_cons_succ, Act.put, List.setIfInBounds_toArray, List.set_cons_zero, List.set_cons_succ]
  refine wpAnyH_take (i := 11) (v := ?_) rfl (by kernel_rfl) (by kernel_rfl) (by kernel_rfl) (fun _ _ _ h => h) (Or.inl ⟨by rfl, ?_⟩) hS ?_
  rotate_left 1
  · intro w' hSw
    go_simp <;> with_reducible rfl
  try simp only [List.getElem_toArray, List.getElem_cons_zero, List.getElem_cons_succ, Act.put, List.setIfInBounds_toArray, List.set_cons_zero, List.set_cons_succ]
  refine wpAnyH_take (i := 12) (v := ?_) rfl (by kernel_rfl) (by kernel_rfl) (by kernel_rfl) (fun _ _ _ h => h) (Or.inl ⟨by rfl, ?_⟩) hS ?_
  rotate_left 1
  · intro w' hSw
    go_simp <;> with_reducible rfl
  try simp only [List.getElem_toArray, List.getElem_cons_zero, List.getElem_cons_succ, Act.put, List.setIfInBounds_toArray, List.set_cons_zero, List.set_cons_succ]
  refine wpAnyH_take (i := 13) (v := ?_) rfl (by kernel_rfl) (by kernel_rfl) (by kernel_rfl) (fun _ _ _ h => h) (Or.inl ⟨by rfl, ?_⟩) hS ?_
  rotate_left 1
  · intro w' hSw
    go_simp <;> with_reducible rfl
  try simp only [List.getElem_toArray, List.getElem_cons_zero, List.getElem_cons_succ, Act.put, List.setIfInBounds_toArray, List.set_cons_zero, List.set_cons_succ]
  refine wpAnyH_take (i := 14) (v := ?_) rfl (by kernel_rfl) (by kernel_rfl) (by kernel_rfl) (fun _ _ _ h => h) (Or.inl ⟨by rfl, ?_⟩) hS ?_
  rotate_left 1
  · intro w' hSw
    go_simp <;> with_reducible rfl
  try simp only [List.getElem_toArray, List.getElem_cons_zero, List.getElem_cons_succ, Act.put, List.setIfInBounds_toArray, List.set_cons_zero, List.set_cons_succ]
  refine wpAnyH_ready (rs := [7]) (by kernel_rfl) (by simp) (AllReadyH.cons rfl (fun K hK => ?_) AllReadyH.nil)
  go_simp
  (with_reducible refine (two_double (sd.two.below (Below.refl _ _).drew) d.f d.t HA.out.1 HA.out.2.1 d.k).mono ?_)
  rintro _ w2 ⟨rfl, q1, q2⟩
  have sd1 := (sd.below (Below.refl _ _).drew).step q1 q2
  clear q1 q2
  go_simp
  refine hK _ _ (box_cells sd1.box) (fun hS => ?_)
  clear hK K
  try simp only [List.getElem_toArray, List.getElem_cons_zero, List.getElem_cons_succ, Act.put, List.setIfInBounds_toArray, List.set_cons_zero, List.set_cons_succ]
  refine wpAnyH_ready (rs := [15]) (by kernel_rfl) (by simp) (AllReadyH.cons rfl (fun K hK => ?_) AllReadyH.nil)
  go_simp
  (with_reducible refine (two_rdouble sd1.two d.f d.t HA.out.1 HA.out.2.1 d.k HA.out.2.2 hm).mono ?_)
  rintro _ w3 ⟨rfl, q1, q2⟩
  have sd2 := sd1.step q1 q2
  clear q1 q2
  go_simp
  refine hK _ _ (box_cells sd2.box) (fun hS => ?_)
  clear hK K
  try simp only [List.getElem_toArray, List.getElem_cons_zero, List.getElem_cons_succ, Act.put, List.setIfInBounds_toArray, List.set_cons_zero, List.set_cons_succ]
  refine wpAnyH_take (i := 16) (v := ?_) rfl (by kernel_rfl) (by kernel_rfl) (by kernel_rfl) (fun _ _ _ h => h) (Or.inl ⟨by rfl, ?_⟩) hS ?_
  rotate_left 1
  · intro w' hSw
    go_simp <;> with_reducible rfl
  try simp only [List.getElem_toArray, List.getElem_cons_zero, List.getElem_cons_succ, Act.put, List.setIfInBounds_toArray, List.set_cons_zero, List.set_cons_succ]
  refine wpAnyH_take (i := 17) (v := ?_) rfl (by kernel_rfl) (by kernel_rfl) (by kernel_rfl) (fun _ _ _ h => h) (Or.inl ⟨by rfl, ?_⟩) hS ?_
  rotate_left 1
  · intro w' hSw
    go_simp <;> with_reducible rfl
  try simp only [List.getElem_toArray, List.getElem_cons_zero, List.getElem_cons_succ, Act.put, List.setIfInBounds_toArray, List.set_cons_zero, List.set_cons_succ]
  refine wpAnyH_done (by kernel_rfl) ?_ _
  go_wp2_with fail
  go_ret
  exact sd2.stop rfl hb1 hlt
/-- What a step of Take ends with. -/
def StT (F : Nat → Prop) (N R X : Nat) (S : Sg) (l : List Int) (T : List PV) (m : Nat) (w : World) (e : Ending) (w' : World) : Prop := e = .returned (.bool true) ∧ (∃ p : PV, p.l = l ∧ Two F N R X S S (T ++ [p]) (T ++ [p]) m w') ∧ Ag F w w'
set_option maxHeartbeats 4000000 in
theorem step_take (hp : pickI d.o 7 = 3) (h : Two F N R X S S T T m w) (ha : StA F d A c w) (hT : T.length + 1 ≤ 1000000) (hV : (tkV S d.f d.t d.k).length ≤ 1000000) :
    Calls Tryz.prog 8 #[.pointer (some ⟨N, 0, none⟩), .pointer (some ⟨R, 0, none⟩), .agg #[.int .i64 d.o, .int .i64 d.f, .int .i64 d.t, .int .i64 d.k, .slice A d.u.length c], .pointer (some ⟨X, 0, none⟩)] w (StT F N R X (tkS S d.f d.t d.k) (tkV S d.f d.t d.k) T m w) := by
  obtain ⟨i0, hi, hz0, hz1, hz2⟩ := info_parts sl51_info
  have hpk : ∀ W, Calls Tryz.prog 19 #[.int .i64 d.o, .int .i64 7] W fun e w' => e = .returned (.int .i64 3) ∧ W = w' := fun W => by
    have := pick_any d.o 7 W (by decide) (by decide)
    rw [hp] at this
    exact this
  have sd := Sd.start h ha
  have hlt := h.flt
  have hb1 : Below w.heap.size w (w.alloc (.cells #[.int .i64 d.o, .int .i64 d.f, .int .i64 d.t, .int .i64 d.k, .slice A d.u.length c] 30)) := (Below.refl _ _).alloc (Nat.le_refl _) _
  obtain ⟨KA, hKA, hrd⟩ := ha.rd
  obtain ⟨_, hlen, hi1, hi2, hi3⟩ := ha
  have HA := Lib.hid (And.intro hi1 (And.intro hi2 hi3))
  have HP := Lib.hid hp
  clear hp hi1 hi2 hi3
  go_enter Tryz.func8, Tryz.ntmps8
  go_wp2_with fail
  generalize (w.alloc (.cells #[.int .i64 d.o, .int .i64 d.f, .int .i64 d.t, .int .i64 d.k, .slice A d.u.length c] 30)) = w1 at *
  obtain ⟨c0, c1, c2, c3, c4⟩ := box_cells sd.box
  go_wp2_with fail
  (with_reducible refine (hpk _).mono ?_)
  rintro _ _ ⟨rfl, rfl⟩
  go_wp2_with fail
  (with_reducible refine (two_take sd.two d.f d.t HA.out.1 HA.out.2.1 d.k).mono ?_)
  rintro _ w2 ⟨A1, k1, rfl, q1, q2⟩
  have sd1 := sd.step q1 q2
  clear q1 q2 c0 c1 c2 c3 c4
  obtain ⟨c0, c1, c2, c3, c4⟩ := box_cells sd1.box
  go_wp2_with fail
  (with_reducible refine (two_rtake sd1.two d.f d.t d.k HA.out.2.2).mono ?_)
  rintro _ w3 ⟨A2, k2, ⟨rfl, q1, q2⟩, K2, hK2⟩
  have sd2 := sd1.step q1 q2
  clear q1 q2 c0 c1 c2 c3 c4
  obtain ⟨v, g, x0, xr, xa, xp⟩ := sd2.two.cellX
  have xp := fun v2 w2 g2 => xp ⟨A1, k1, tkV S d.f d.t d.k⟩ v2 w2 g2
  have xa := xa (.slice A1 (tkV S d.f d.t d.k).length k1)
  simp only [PV.val] at xp
  have HXP := Lib.hid xp
  have hrow : Row (w3.alloc (.cells #[.slice A1 (tkV S d.f d.t d.k).length k1] 28)) 28 1 v g T.length (T.map PV.val) := xr.keep (fun e => xa.elim id (fun q => absurd e q))
  have hnw : ∀ j u, [Value.slice A1 (tkV S d.f d.t d.k).length k1][j]? = some u → (w3.alloc (.cells #[.slice A1 (tkV S d.f d.t d.k).length k1] 28)).cell? ((⟨w3.heap.size, 0, none⟩ : Addr).add j) = some u := news_new w3 [.slice A1 (tkV S d.f d.t d.k).length k1] 28
  clear xp xr xa
  go_wp2_with (at_builtin; refine wpList_append_row _ (by rfl) (.tmp 46) (.tmp 48) 27 (by rfl) 28 i0 _ 1 24 Tryz.underlying27 hi hz0 hz1 hz2 rfl v g T.length (T.map PV.val) (by rfl) hrow ⟨w3.heap.size, 0, none⟩ 1 1 [.slice A1 (tkV S d.f d.t d.k).length k1] (by rfl) rfl hnw (fun u hu => by simp at hu; subst hu; rfl) (by unfold maxLen; omega) (by omega) (by decide) ?_; intro v4 w4 g4 hr4 hgr4 hv4 hg4 hlt4; obtain ⟨f1, f2, f3, f4, f5⟩ := HXP.out v4 w4 g4 hr4 hgr4 hg4 hlt4; obtain ⟨cap4, rfl⟩ := hr4.form3 hv4; clear hgr4 hr4 hrow hnw)
  generalize w4.setCell ⟨X, 0, none⟩ (.slice (some ⟨g4, 0, none⟩) (T.length + 1) cap4) = w5 at *
  have sd3 := sd2.step f3 f4
  obtain ⟨K1, hK1⟩ := sd3.two.dat (p := ⟨A1, k1, tkV S d.f d.t d.k⟩) (by simp)
  have hK3 := hK2.narrow.keep (w' := w5) (K' := fun _ => True) (fun b q hb => f5.block b hb q.2) f5.size (fun _ _ _ => trivial)
  dsimp only at hK1
  have hsame := SameBytes_any _ _ A1 A2 k1 k2 (tkV S d.f d.t d.k) (tkV S d.f d.t d.k) w5 hK1.rd.1 hK3.rd.1 (by omega) (by omega)
  rw [decide_eq_true (rfl : tkV S d.f d.t d.k = tkV S d.f d.t d.k)] at hsame
  go_wp2_with fail
  (with_reducible refine hsame.mono ?_)
  rintro _ w6 ⟨rfl, kq, rfl⟩
  have sd4 := sd3.below (below_drewN w5 kq)
  go_wp2_with fail
  go_ret
  exact ⟨rfl, ⟨_, rfl, sd4.two.guard (Below.refl _ _) (fun j q => .inl (.inl q))⟩, (Ag.of_below F hb1).trans (sd4.ag.mono fun k _ q => .inl q)⟩
set_option maxHeartbeats 4000000 in
theorem step_send (hp : pickI d.o 7 < 3) (h : Two F N R X S S T T m w) (ha : StA F d A c w) (hm : m + 1 ≤ 1000000) :
    Calls Tryz.prog 8 #[.pointer (some ⟨N, 0, none⟩), .pointer (some ⟨R, 0, none⟩), .agg #[.int .i64 d.o, .int .i64 d.f, .int .i64 d.t, .int .i64 d.k, .slice A d.u.length c], .pointer (some ⟨X, 0, none⟩)] w (StE F N R X (sndS S d.f d.t (bI d.u)) T (m + 1) w) := by
  have hp0 := (pickI_range d.o 7 (by decide)).1
  obtain ⟨z, hz⟩ : ∃ z, Hid (z = pickI d.o 7) := ⟨_, Lib.hid rfl⟩
  rw [← hz.out] at hp hp0
  have z3 : (z == 3) = false := beq_eq_false_iff_ne.2 (by omega)
  have z4 : (z == 4) = false := beq_eq_false_iff_ne.2 (by omega)
  have z5 : (z == 5) = false := beq_eq_false_iff_ne.2 (by omega)
  have z6 : (z == 6) = false := beq_eq_false_iff_ne.2 (by omega)
  have hp := hz.out.symm
  have hpk : ∀ W, Calls Tryz.prog 19 #[.int .i64 d.o, .int .i64 7] W fun e w' => e = .returned (.int .i64 z) ∧ W = w' := fun W => by
    have := pick_any d.o 7 W (by decide) (by decide)
    rw [hp] at this
    exact this
  have sd := Sd.start h ha
  have hlt := h.flt
  have hb1 : Below w.heap.size w (w.alloc (.cells #[.int .i64 d.o, .int .i64 d.f, .int .i64 d.t, .int .i64 d.k, .slice A d.u.length c] 30)) := (Below.refl _ _).alloc (Nat.le_refl _) _
  obtain ⟨KA, hKA, hrd⟩ := ha.rd
  obtain ⟨_, hlen, hi1, hi2, hi3⟩ := ha
  have HA := Lib.hid (And.intro hi1 (And.intro hi2 hi3))
  have HP := Lib.hid hp
  clear hp hi1 hi2 hi3
  go_enter Tryz.func8, Tryz.ntmps8
  go_wp2_with fail
  generalize (w.alloc (.cells #[.int .i64 d.o, .int .i64 d.f, .int .i64 d.t, .int .i64 d.k, .slice A d.u.length c] 30)) = w1 at *
  obtain ⟨c0, c1, c2, c3, c4⟩ := box_cells sd.box
  go_wp2_with fail
  (with_reducible refine (hpk _).mono ?_)
  rintro _ _ ⟨rfl, rfl⟩
  go_wp2_with fail
  have hbl : d.u.length = (bI d.u).length := (bI_len _).symm
  obtain ⟨KB, hKB, hrB⟩ := sd.arg.rd
  have hlent := lent_any KB A c (bI d.u) w1 hrB (fun b q => sd.two.flt b (hKB b q)) (by simp; omega)
  rw [bI_len] at hlent
  clear hbl
  (with_reducible refine hlent.mono ?_)
  rintro _ w2 ⟨rfl, bg, hb2⟩
  clear hlent c0 c1 c2 c3 c4
  have sdL := sd.below hb2
  have hg2 : Two (fun j => (F j ∨ j = w.heap.size) ∨ j = w1.heap.size) N R X S S T T m w2 := sd.two.guard hb2 (fun j q => q.imp id (fun e => by have := bg.lt; omega))
  have sd2 : Sd (fun j => (F j ∨ j = w.heap.size) ∨ j = w1.heap.size) N R X w.heap.size d A c S S T T m w2 w2 := ⟨hg2, sdL.box, ⟨sdL.arg.rd.elim fun K q => ⟨K, fun b k => .inl (q.1 b k), q.2⟩, sdL.arg.len, sdL.arg.i1, sdL.arg.i2, sdL.arg.i3⟩, .inl sdL.fD, Ag.refl _ _⟩
  have hgl : w1.heap.size < w2.heap.size := bg.lt
  obtain ⟨c0, c1, c2, c3, c4⟩ := box_cells sd2.box
  have hx : ((sndE S d.f d.t (bI d.u)) == (sndE S d.f d.t (bI d.u))) = true := beq_self_eq_true _
  go_wp2_with fail
  refine wp_region_held_drew (S := fun w' => w'.cell? ⟨w.heap.size, 0, none⟩ = some (.int .i64 d.o) ∧ w'.cell? ⟨w.heap.size, 1, none⟩ = some (.int .i64 d.f) ∧ w'.cell? ⟨w.heap.size, 2, none⟩ = some (.int .i64 d.t) ∧ w'.cell? ⟨w.heap.size, 3, none⟩ = some (.int .i64 d.k) ∧ w'.cell? ⟨w.heap.size, 4, none⟩ = some (.slice A d.u.length c)) (by kernel_rfl) (box_cells sd2.box) (fun hS => ?_)
  refine wpAnyH_take (i := 0) (v := ?_) rfl (by kernel_rfl) (by kernel_rfl) (by kernel_rfl) (fun _ _ _ h => h) (Or.inl ⟨by rfl, ?_⟩) hS ?_
  rotate_left 1
  · intro w' hSw
    go_simp <;> with_reducible rfl
  try simp only [List.getElem_toArray, List.getElem_cons_zero, List.getElem_cons_succ, Act.put, List.setIfInBounds_toArray, List.set_cons_zero, List.set_cons_succ]
  refine wpAnyH_take (i := 1) (v := ?_) rfl (by kernel_rfl) (by kernel_rfl) (by kernel_rfl) (fun _ _ _ h => h) (Or.inl ⟨by rfl, ?_⟩) hS ?_
  rotate_left 1
  · intro w' hSw
    go_simp <;> with_reducible rfl
  try simp only [List.getElem_toArray, List.getElem_cons_zero, List.getElem_cons_succ, Act.put, List.setIfInBounds_toArray, List.set_cons_zero, List.set_cons_succ]
  refine wpAnyH_take (i := 2) (v := ?_) rfl (by kernel_rfl) (by kernel_rfl) (by kernel_rfl) (fun _ _ _ h => h) (Or.inl ⟨by rfl, ?_⟩) hS ?_
  rotate_left 1
  · intro w' hSw
    go_simp <;> with_reducible rfl
  try simp only [List.getElem_toArray, List.getElem_cons_zero, List.getElem_cons_succ, Act.put, List.setIfInBounds_toArray, List.set_cons_zero, List.set_cons_succ]
  refine wpAnyH_take (i := 3) (v := ?_) rfl (by kernel_rfl) (by kernel_rfl) (by kernel_rfl) (fun _ _ _ h => h) (Or.inl ⟨by rfl, ?_⟩) hS ?_
  rotate_left 1
  · intro w' hSw
    go_simp <;> with_reducible rfl
  try simp only [List.getElem_toArray, List.getElem_cons_zero, List.getElem_cons_succ, Act.put, List.setIfInBounds_toArray, List.set_cons_zero, List.set_cons_succ]
  refine wpAnyH_take (i := 4) (v := ?_) rfl (by kernel_rfl) (by kernel_rfl) (by kernel_rfl) (fun _ _ _ h => h) (Or.inl ⟨by rfl, ?_⟩) hS ?_
  rotate_left 1
  · intro w' hSw
    go_simp <;> with_reducible rfl
  try simp only [List.getElem_toArray, List.getElem_cons_zero, List.getElem_cons_succ, Act.put, List.setIfInBounds_toArray, List.set_cons_zero, List.set_cons_succ]
  refine wpAnyH_take (i := 5) (v := ?_) rfl (by kernel_rfl) (by kernel_rfl) (by kernel_rfl) (fun _ _ _ h => h) (Or.inl ⟨by rfl, ?_⟩) hS ?_
  rotate_left 1
  · intro w' hSw
    go_simp <;> with_reducible rfl
  try simp only [List.getElem_toArray, List.getElem_cons_zero, List.getElem_cons_succ, Act.put, List.setIfInBounds_toArray, List.set_cons_zero, List.set_cons_succ]
  refine wpAnyH_take (i := 7) (v := ?_) rfl (by kernel_rfl) (by kernel_rfl) (by kernel_rfl) (fun _ _ _ h => h) (Or.inl ⟨by rfl, ?_⟩) hS ?_
  rotate_left 1
  · intro w' hSw
    go_simp <;> with_reducible rfl
  try simp only [List.getElem_toArray, List.getElem_cons_zero, List.getElem_cons_succ, Act.put, List.setIfInBounds_toArray, List.set_cons_zero, List.set_cons_succ]
  refine wpAnyH_take (i := 8) (v := ?_) rfl (by kernel_rfl) (by kernel_rfl) (by kernel_rfl) (fun _ _ _ h => h) (Or.inl ⟨by rfl, ?_⟩) hS ?_
  rotate_left 1
  · intro w' hSw
    go_simp <;> with_reducible rfl
  try simp only [List.getElem_toArray, List.getElem_cons_zero, List.getElem_cons_succ, Act.put, List.setIfInBounds_toArray, List.set_cons_zero, List.set_cons_succ]
  refine wpAnyH_take (i := 9) (v := ?_) rfl (by kernel_rfl) (by kernel_rfl) (by kernel_rfl) (fun _ _ _ h => h) (Or.inl ⟨by rfl, ?_⟩) hS ?_
  rotate_left 1
  · intro w' hSw
    go_simp <;> with_reducible rfl
  try simp only [List.getElem_toArray, List.getElem_cons_zero, List.getElem_cons_succ, Act.put, List.setIfInBounds_toArray, List.set_cons_zero, List.set_cons_succ]
  refine wpAnyH_take (i := 10) (v := ?_) rfl (by kernel_rfl) (by kernel_rfl) (by kernel_rfl) (fun _ _ _ h => h) (Or.inl ⟨by rfl, ?_⟩) hS ?_
  rotate_left 1
  · intro w' hSw
    go_simp <;> with_reducible rfl
  try simp only [List.getElem_toArray, List.getElem_cons_zero, List.getElem_cons_succ, Act.put, List.setIfInBounds_toArray, List.set_cons_zero, List.set_cons_succ]
  refine wpAnyH_take (i := 11) (v := ?_) rfl (by kernel_rfl) (by kernel_rfl) (by kernel_rfl) (fun _ _ _ h => h) (Or.inl ⟨by rfl, ?_⟩) hS ?_
  rotate_left 1
  · intro w' hSw
    go_simp <;> with_reducible rfl
  try simp only [List.getElem_toArray, List.getElem_cons_zero, List.getElem_cons_succ, Act.put, List.setIfInBounds_toArray, List.set_cons_zero, List.set_cons_succ]
  refine wpAnyH_take (i := 12) (v := ?_) rfl (by kernel_rfl) (by kernel_rfl) (by kernel_rfl) (fun _ _ _ h => h) (Or.inl ⟨by rfl, ?_⟩) hS ?_
  rotate_left 1
  · intro w' hSw
    go_simp <;> with_reducible rfl
  try simp only [List.getElem_toArray, List.getElem_cons_zero, List.getElem_cons_succ, Act.put, List.setIfInBounds_toArray, List.set_cons_zero, List.set_cons_succ]
  refine wpAnyH_take (i := 13) (v := ?_) rfl (by kernel_rfl) (by kernel_rfl) (by kernel_rfl) (fun _ _ _ h => h) (Or.inl ⟨by rfl, ?_⟩) hS ?_
  rotate_left 1
  · intro w' hSw
    go_simp <;> with_reducible rfl
  try simp only [List.getElem_toArray, List.getElem_cons_zero, List.getElem_cons_succ, Act.put, List.setIfInBounds_toArray, List.set_cons_zero, List.set_cons_succ]
  refine wpAnyH_ready (rs := [6]) (by kernel_rfl) (by simp) (AllReadyH.cons rfl (fun K hK => ?_) AllReadyH.nil)
  go_simp
  have hrd3 : Rd w2.drew (fun b => b = w1.heap.size) (some ⟨w1.heap.size, 0, none⟩) (d.u.length + 12) (u8s (bI d.u)) := bk_pre bg.drew _
  have hcon := two_send (sd2.two.below (Below.refl _ _).drew) d.f d.t HA.out.1 HA.out.2.1 (some ⟨w1.heap.size, 0, none⟩) (d.u.length + 12) (bI d.u) hrd3 (fun k e => by subst e; exact hgl)
  rw [bI_len] at hcon
  (with_reducible refine hcon.mono ?_)
  rintro _ w3 ⟨rfl, q1, q2⟩
  have sd3 := (sd2.below (Below.refl _ _).drew).step q1 q2
  clear q1 q2 hcon hrd3
  go_simp
  refine hK _ _ (box_cells sd3.box) (fun hS => ?_)
  clear hK K
  try simp only [List.getElem_toArray, List.getElem_cons_zero, List.getElem_cons_succ, Act.put, List.setIfInBounds_toArray, List.set_cons_zero, List.set_cons_succ]
  refine wpAnyH_ready (rs := [14]) (by kernel_rfl) (by simp) (AllReadyH.cons rfl (fun K hK => ?_) AllReadyH.nil)
  go_simp
  obtain ⟨KC, hKC, hrC⟩ := sd3.arg.rd
  have hcon := two_rsend sd3.two d.f d.t HA.out.1 HA.out.2.1 A c (bI d.u) hrC (fun b q => sd3.two.flt b (hKC b q)) hm
  rw [bI_len] at hcon
  (with_reducible refine hcon.mono ?_)
  rintro _ w4 ⟨rfl, q1, q2⟩
  have sd4 := sd3.step q1 q2
  clear q1 q2 hcon
  go_simp
  refine hK _ _ (box_cells sd4.box) (fun hS => ?_)
  clear hK K
  try simp only [List.getElem_toArray, List.getElem_cons_zero, List.getElem_cons_succ, Act.put, List.setIfInBounds_toArray, List.set_cons_zero, List.set_cons_succ]
  refine wpAnyH_take (i := 15) (v := ?_) rfl (by kernel_rfl) (by kernel_rfl) (by kernel_rfl) (fun _ _ _ h => h) (Or.inl ⟨by rfl, ?_⟩) hS ?_
  rotate_left 1
  · intro w' hSw
    go_simp <;> with_reducible rfl
  try simp only [List.getElem_toArray, List.getElem_cons_zero, List.getElem_cons_succ, Act.put, List.setIfInBounds_toArray, List.set_cons_zero, List.set_cons_succ]
  refine wpAnyH_take (i := 16) (v := ?_) rfl (by kernel_rfl) (by kernel_rfl) (by kernel_rfl) (fun _ _ _ h => h) (Or.inl ⟨by rfl, ?_⟩) hS ?_
  rotate_left 1
  · intro w' hSw
    go_simp <;> with_reducible rfl
  try simp only [List.getElem_toArray, List.getElem_cons_zero, List.getElem_cons_succ, Act.put, List.setIfInBounds_toArray, List.set_cons_zero, List.set_cons_succ]
  refine wpAnyH_take (i := 17) (v := ?_) rfl (by kernel_rfl) (by kernel_rfl) (by kernel_rfl) (fun _ _ _ h => h) (Or.inl ⟨by go_simp, ?_⟩) hS ?_
  rotate_left 1
  · intro w' hSw
    go_simp <;> with_reducible rfl
  try simp only [List.getElem_toArray, List.getElem_cons_zero, List.getElem_cons_succ, Act.put, List.setIfInBounds_toArray, List.set_cons_zero, List.set_cons_succ]
  refine wpAnyH_take (i := 18) (v := ?_) rfl (by kernel_rfl) (by kernel_rfl) (by kernel_rfl) (fun _ _ _ h => h) (Or.inl ⟨by go_simp, ?_⟩) hS ?_
  rotate_left 1
  · intro w' hSw
    go_simp <;> with_reducible rfl
  try simp only [List.getElem_toArray, List.getElem_cons_zero, List.getElem_cons_succ, Act.put, List.setIfInBounds_toArray, List.set_cons_zero, List.set_cons_succ]
  refine wpAnyH_take (i := 19) (v := ?_) rfl (by kernel_rfl) (by kernel_rfl) (by kernel_rfl) (fun _ _ _ h => h) (Or.inl ⟨by go_simp, ?_⟩) hS ?_
  rotate_left 1
  · intro w' hSw
    go_simp <;> with_reducible rfl
  try simp only [List.getElem_toArray, List.getElem_cons_zero, List.getElem_cons_succ, Act.put, List.setIfInBounds_toArray, List.set_cons_zero, List.set_cons_succ]
  refine wpAnyH_ready (rs := [20]) (by kernel_rfl) (by simp) (AllReadyH.cons rfl (fun K hK => ?_) AllReadyH.nil)
  go_simp
  obtain ⟨KE, hKE, hrE⟩ := sd4.arg.rd
  have bg4 : Bk w4 w1.heap.size 5 (u8s (bI d.u ++ marks 12)) := (sd4.ag.block _ hgl (.inr rfl)).trans bg
  have hcon := kept_any w1.heap.size d.u.length A c (bI d.u ++ marks 12) (bI d.u) w4 bg4 KE hrE (by simp) (by simp; omega) (by omega)
  rw [bI_len, decide_eq_true (rfl : bI d.u ++ marks 12 = bI d.u ++ marks 12)] at hcon
  (with_reducible refine hcon.mono ?_)
  rintro _ w5 ⟨rfl, kq, rfl⟩
  have sd5 := sd4.below (below_drewN w4 kq)
  have bg5 : Bk (w4.drewN kq) w1.heap.size 5 (u8s (bI d.u ++ marks 12)) := bg4
  clear hcon
  go_simp
  refine hK _ _ (box_cells sd5.box) (fun hS => ?_)
  clear hK K
  generalize w4.drewN kq = w5 at *
  try simp only [List.getElem_toArray, List.getElem_cons_zero, List.getElem_cons_succ, Act.put, List.setIfInBounds_toArray, List.set_cons_zero, List.set_cons_succ]
  refine wpAnyH_take (i := 21) (v := ?_) rfl (by kernel_rfl) (by kernel_rfl) (by kernel_rfl) (fun _ _ _ h => h) (Or.inl ⟨by rfl, ?_⟩) hS ?_
  rotate_left 1
  · intro w' hSw
    go_simp <;> with_reducible rfl
  try simp only [List.getElem_toArray, List.getElem_cons_zero, List.getElem_cons_succ, Act.put, List.setIfInBounds_toArray, List.set_cons_zero, List.set_cons_succ]
  refine wpAnyH_take (i := 22) (v := ?_) rfl (by kernel_rfl) (by kernel_rfl) (by kernel_rfl) (fun _ _ _ h => h) (Or.inl ⟨by rfl, ?_⟩) hS ?_
  rotate_left 1
  · intro w' hSw
    go_simp <;> with_reducible rfl
  try simp only [List.getElem_toArray, List.getElem_cons_zero, List.getElem_cons_succ, Act.put, List.setIfInBounds_toArray, List.set_cons_zero, List.set_cons_succ]
  refine wpAnyH_done (by kernel_rfl) ?_ _
  go_wp2_with fail
  have hover := OverBytes_any w1.heap.size d.u.length _ w5 bg5 (by simp [marks]) (by omega)
  (with_reducible refine hover.mono ?_)
  rintro _ w6 ⟨⟨r, rfl⟩, _, hag⟩
  clear hover
  go_wp2_with fail
  go_ret
  have hF6 : Two (fun j => (F j ∨ j = w.heap.size) ∨ j = w1.heap.size) N R X (sndS S d.f d.t (bI d.u)) (sndS S d.f d.t (bI d.u)) T T (m + 1) w6 := sd5.two.other hag.size (fun j j1 j2 => hag.block j j1 (fun e => j2 (.inr e)))
  refine ⟨rfl, hF6.guard (Below.refl _ _) (fun j q => .inl (.inl (.inl q))), ?_⟩
  have h1 : Ag F w w2 := (Ag.of_below F hb1).trans (Ag.of_below F hb2)
  exact h1.trans ((sd5.ag.mono fun k _ q => .inl (.inl q)).trans (hag.mono fun k _ q e => by have := hlt k q; have := hb1.size; omega))
/-- What a step ends with that puts many. -/
def StM (F : Nat → Prop) (N R X : Nat) (S : Sg) (T : List PV) (m : Nat) (w : World) (e : Ending) (w' : World) : Prop := e = .returned (.bool true) ∧ (∃ S' m', (C64 S → C64 S') ∧ m' ≤ m + 70 ∧ Two F N R X S' S' T T m' w') ∧ Ag F w w'
set_option maxHeartbeats 4000000 in
theorem step_many (hp : pickI d.o 7 = 6) (h : Two F N R X S S T T m w) (ha : StA F d A c w) (hm : m + 70 ≤ 1000000) :
    Calls Tryz.prog 8 #[.pointer (some ⟨N, 0, none⟩), .pointer (some ⟨R, 0, none⟩), .agg #[.int .i64 d.o, .int .i64 d.f, .int .i64 d.t, .int .i64 d.k, .slice A d.u.length c], .pointer (some ⟨X, 0, none⟩)] w (StM F N R X S T m w) := by
  obtain ⟨z, hz⟩ : ∃ z, Hid (z = pickI d.k 70) := ⟨_, Lib.hid rfl⟩
  have hz1 : 0 ≤ z ∧ z < 70 := by rw [hz.out]; exact pickI_range d.k 70 (by decide)
  have hpz : ∀ W, Calls Tryz.prog 19 #[.int .i64 d.k, .int .i64 70] W fun e w' => e = .returned (.int .i64 z) ∧ W = w' := fun W => by
    have := pick_any d.k 70 W (by decide) (by decide)
    rw [← hz.out] at this
    exact this
  have hpk : ∀ W, Calls Tryz.prog 19 #[.int .i64 d.o, .int .i64 7] W fun e w' => e = .returned (.int .i64 6) ∧ W = w' := fun W => by
    have := pick_any d.o 7 W (by decide) (by decide)
    rw [hp] at this
    exact this
  have sd := Sd.start h ha
  have hlt := h.flt
  have hb1 : Below w.heap.size w (w.alloc (.cells #[.int .i64 d.o, .int .i64 d.f, .int .i64 d.t, .int .i64 d.k, .slice A d.u.length c] 30)) := (Below.refl _ _).alloc (Nat.le_refl _) _
  obtain ⟨KA, hKA, hrd⟩ := ha.rd
  obtain ⟨_, hlen, hi1, hi2, hi3⟩ := ha
  have HA := Lib.hid (And.intro hi1 (And.intro hi2 hi3))
  have HP := Lib.hid hp
  clear hp hi1 hi2 hi3
  go_enter Tryz.func8, Tryz.ntmps8
  go_wp2_with fail
  generalize (w.alloc (.cells #[.int .i64 d.o, .int .i64 d.f, .int .i64 d.t, .int .i64 d.k, .slice A d.u.length c] 30)) = w1 at *
  obtain ⟨c0, c1, c2, c3, c4⟩ := box_cells sd.box
  go_wp2_with fail
  (with_reducible refine (hpk _).mono ?_)
  rintro _ _ ⟨rfl, rfl⟩
  go_wp2_with fail
  clear c0 c1 c2 c3 c4
  go_loopw [13] (fun i wr => ∃ (k : Nat) (S' : Sg), Hid (C64 S → C64 S') ∧ (k : Int) ≤ z ∧ i = .int .i64 k ∧ Sd (fun j => F j ∨ j = w.heap.size) N R X w.heap.size d A c S' S' T T (m + k) w1 wr) (fun i _ => z.toNat - (intOf i).toNat)
  case atStart => exact ⟨0, S, Lib.hid id, by omega, rfl, sd⟩
  case round =>
    clear sd
    obtain ⟨k, S', h64, hk, rfl, sd⟩ := hrel
    obtain ⟨c0, c1, c2, c3, c4⟩ := box_cells sd.box
    go_wp2_with fail
    (with_reducible refine (hpz _).mono ?_)
    rintro _ _ ⟨rfl, rfl⟩
    by_cases hkz : (k : Int) < z
    · have dk : decide ((k : Int) < z) = true := decide_eq_true hkz
      have hx : ((sndE S' d.f d.t (bI d.u)) != (sndE S' d.f d.t (bI d.u))) = false := by simp
      go_wp2_with fail
      refine wp_region_held_drew (S := fun w' => w'.cell? ⟨w.heap.size, 0, none⟩ = some (.int .i64 d.o) ∧ w'.cell? ⟨w.heap.size, 1, none⟩ = some (.int .i64 d.f) ∧ w'.cell? ⟨w.heap.size, 2, none⟩ = some (.int .i64 d.t) ∧ w'.cell? ⟨w.heap.size, 3, none⟩ = some (.int .i64 d.k) ∧ w'.cell? ⟨w.heap.size, 4, none⟩ = some (.slice A d.u.length c)) (by kernel_rfl) (box_cells sd.box) (fun hS => ?_)
      refine wpAnyH_take (i := 0) (v := ?_) rfl (by kernel_rfl) (by kernel_rfl) (by kernel_rfl) (fun _ _ _ h => h) (Or.inl ⟨by rfl, ?_⟩) hS ?_
      rotate_left 1
      · intro w' hSw
        go_simp <;> with_reducible rfl
      try simp only [List.getElem_toArray, List.getElem_cons_zero, List.getElem_cons_succ, Act.put, List.setIfInBounds_toArray, List.set_cons_zero, List.set_cons_succ]
      refine wpAnyH_take (i := 1) (v := ?_) rfl (by kernel_rfl) (by kernel_rfl) (by kernel_rfl) (fun _ _ _ h => h) (Or.inl ⟨by rfl, ?_⟩) hS ?_
      rotate_left 1
      · intro w' hSw
        go_simp <;> with_reducible rfl
      try simp only [List.getElem_toArray, List.getElem_cons_zero, List.getElem_cons_succ, Act.put, List.setIfInBounds_toArray, List.set_cons_zero, List.set_cons_succ]
      refine wpAnyH_take (i := 2) (v := ?_) rfl (by kernel_rfl) (by kernel_rfl) (by kernel_rfl) (fun _ _ _ h => h) (Or.inl ⟨by rfl, ?_⟩) hS ?_
      rotate_left 1
      · intro w' hSw
        go_simp <;> with_reducible rfl
      try simp only [List.getElem_toArray, List.getElem_cons_zero, List.getElem_cons_succ, Act.put, List.setIfInBounds_toArray, List.set_cons_zero, List.set_cons_succ]
      refine wpAnyH_take (i := 3) (v := ?_) rfl (by kernel_rfl) (by kernel_rfl) (by kernel_rfl) (fun _ _ _ h => h) (Or.inl ⟨by rfl, ?_⟩) hS ?_
      rotate_left 1
      · intro w' hSw
        go_simp <;> with_reducible rfl
      try simp only [List.getElem_toArray, List.getElem_cons_zero, List.getElem_cons_succ, Act.put, List.setIfInBounds_toArray, List.set_cons_zero, List.set_cons_succ]
      refine wpAnyH_take (i := 4) (v := ?_) rfl (by kernel_rfl) (by kernel_rfl) (by kernel_rfl) (fun _ _ _ h => h) (Or.inl ⟨by rfl, ?_⟩) hS ?_
      rotate_left 1
      · intro w' hSw
        go_simp <;> with_reducible rfl
      try simp only [List.getElem_toArray, List.getElem_cons_zero, List.getElem_cons_succ, Act.put, List.setIfInBounds_toArray, List.set_cons_zero, List.set_cons_succ]
      refine wpAnyH_take (i := 5) (v := ?_) rfl (by kernel_rfl) (by kernel_rfl) (by kernel_rfl) (fun _ _ _ h => h) (Or.inl ⟨by rfl, ?_⟩) hS ?_
      rotate_left 1
      · intro w' hSw
        go_simp <;> with_reducible rfl
      try simp only [List.getElem_toArray, List.getElem_cons_zero, List.getElem_cons_succ, Act.put, List.setIfInBounds_toArray, List.set_cons_zero, List.set_cons_succ]
      refine wpAnyH_take (i := 6) (v := ?_) rfl (by kernel_rfl) (by kernel_rfl) (by kernel_rfl) (fun _ _ _ h => h) (Or.inl ⟨by rfl, ?_⟩) hS ?_
      rotate_left 1
      · intro w' hSw
        go_simp <;> with_reducible rfl
      try simp only [List.getElem_toArray, List.getElem_cons_zero, List.getElem_cons_succ, Act.put, List.setIfInBounds_toArray, List.set_cons_zero, List.set_cons_succ]
      refine wpAnyH_take (i := 8) (v := ?_) rfl (by kernel_rfl) (by kernel_rfl) (by kernel_rfl) (fun _ _ _ h => h) (Or.inl ⟨by rfl, ?_⟩) hS ?_
      rotate_left 1
      · intro w' hSw
        go_simp <;> with_reducible rfl
      try simp only [List.getElem_toArray, List.getElem_cons_zero, List.getElem_cons_succ, Act.put, List.setIfInBounds_toArray, List.set_cons_zero, List.set_cons_succ]
      refine wpAnyH_take (i := 9) (v := ?_) rfl (by kernel_rfl) (by kernel_rfl) (by kernel_rfl) (fun _ _ _ h => h) (Or.inl ⟨by rfl, ?_⟩) hS ?_
      rotate_left 1
      · intro w' hSw
        go_simp <;> with_reducible rfl
      try simp only [List.getElem_toArray, List.getElem_cons_zero, List.getElem_cons_succ, Act.put, List.setIfInBounds_toArray, List.set_cons_zero, List.set_cons_succ]
      refine wpAnyH_take (i := 10) (v := ?_) rfl (by kernel_rfl) (by kernel_rfl) (by kernel_rfl) (fun _ _ _ h => h) (Or.inl ⟨by rfl, ?_⟩) hS ?_
      rotate_left 1
      · intro w' hSw
        go_simp <;> with_reducible rfl
      try simp only [List.getElem_toArray, List.getElem_cons_zero, List.getElem_cons_succ, Act.put, List.setIfInBounds_toArray, List.set_cons_zero, List.set_cons_succ]
      refine wpAnyH_take (i := 11) (v := ?_) rfl (by kernel_rfl) (by kernel_rfl) (by kernel_rfl) (fun _ _ _ h => h) (Or.inl ⟨by rfl, ?_⟩) hS ?_
      rotate_left 1
      · intro w' hSw
        go_simp <;> with_reducible rfl
      try simp only [List.getElem_toArray, List.getElem_cons_zero, List.getElem_cons_succ, Act.put, List.setIfInBounds_toArray, List.set_cons_zero, List.set_cons_succ]
      refine wpAnyH_take (i := 12) (v := ?_) rfl (by kernel_rfl) (by kernel_rfl) (by kernel_rfl) (fun _ _ _ h => h) (Or.inl ⟨by rfl, ?_⟩) hS ?_
      rotate_left 1
      · intro w' hSw
        go_simp <;> with_reducible rfl
      try simp only [List.getElem_toArray, List.getElem_cons_zero, List.getElem_cons_succ, Act.put, List.setIfInBounds_toArray, List.set_cons_zero, List.set_cons_succ]
      refine wpAnyH_take (i := 13) (v := ?_) rfl (by kernel_rfl) (by kernel_rfl) (by kernel_rfl) (fun _ _ _ h => h) (Or.inl ⟨by rfl, ?_⟩) hS ?_
      rotate_left 1
      · intro w' hSw
        go_simp <;> with_reducible rfl
      try simp only [List.getElem_toArray, List.getElem_cons_zero, List.getElem_cons_succ, Act.put, List.setIfInBounds_toArray, List.set_cons_zero, List.set_cons_succ]
      refine wpAnyH_take (i := 14) (v := ?_) rfl (by kernel_rfl) (by kernel_rfl) (by kernel_rfl) (fun _ _ _ h => h) (Or.inl ⟨by rfl, ?_⟩) hS ?_
      rotate_left 1
      · intro w' hSw
        go_simp <;> with_reducible rfl
      try simp only [List.getElem_toArray, List.getElem_cons_zero, List.getElem_cons_succ, Act.put, List.setIfInBounds_toArray, List.set_cons_zero, List.set_cons_succ]
      refine wpAnyH_ready (rs := [7]) (by kernel_rfl) (by simp) (AllReadyH.cons rfl (fun K hK => ?_) AllReadyH.nil)
      go_simp
      obtain ⟨KB, hKB, hrB⟩ := (sd.below (Below.refl _ _).drew).arg.rd
      have hcon := two_send (sd.two.below (Below.refl _ _).drew) d.f d.t HA.out.1 HA.out.2.1 A c (bI d.u) hrB (fun b q => sd.two.flt b (hKB b q))
      rw [bI_len] at hcon
      (with_reducible refine hcon.mono ?_)
      rintro _ w3 ⟨rfl, q1, q2⟩
      have sd1 := (sd.below (Below.refl _ _).drew).step q1 q2
      clear q1 q2 hcon
      go_simp
      refine hK _ _ (box_cells sd1.box) (fun hS => ?_)
      clear hK K
      try simp only [List.getElem_toArray, List.getElem_cons_zero, List.getElem_cons_succ, Act.put, List.setIfInBounds_toArray, List.set_cons_zero, List.set_cons_succ]
      refine wpAnyH_ready (rs := [15]) (by kernel_rfl) (by simp) (AllReadyH.cons rfl (fun K hK => ?_) AllReadyH.nil)
      go_simp
      obtain ⟨KC, hKC, hrC⟩ := sd1.arg.rd
      have hcon := two_rsend sd1.two d.f d.t HA.out.1 HA.out.2.1 A c (bI d.u) hrC (fun b q => sd1.two.flt b (hKC b q)) (by omega)
      rw [bI_len] at hcon
      (with_reducible refine hcon.mono ?_)
      rintro _ w4 ⟨rfl, q1, q2⟩
      have sd2 := sd1.step q1 q2
      clear q1 q2 hcon
      go_simp
      refine hK _ _ (box_cells sd2.box) (fun hS => ?_)
      clear hK K
      try simp only [List.getElem_toArray, List.getElem_cons_zero, List.getElem_cons_succ, Act.put, List.setIfInBounds_toArray, List.set_cons_zero, List.set_cons_succ]
      refine wpAnyH_take (i := 16) (v := ?_) rfl (by kernel_rfl) (by kernel_rfl) (by kernel_rfl) (fun _ _ _ h => h) (Or.inl ⟨by rfl, ?_⟩) hS ?_
      rotate_left 1
      · intro w' hSw
        go_simp <;> with_reducible rfl
      try simp only [List.getElem_toArray, List.getElem_cons_zero, List.getElem_cons_succ, Act.put, List.setIfInBounds_toArray, List.set_cons_zero, List.set_cons_succ]
      refine wpAnyH_done (by kernel_rfl) ?_ _
      go_wp2_with fail
      go_roundw
      case rel => exact ⟨k + 1, _, Lib.hid (fun q => c64_snd (h64.out q) _ _ _), by omega, by go_num, sd2⟩
      case measure => simp [intOf]; omega
    · have dk : decide ((k : Int) < z) = false := decide_eq_false hkz
      go_wp2_with fail
      go_ret
      exact ⟨rfl, ⟨S', m + k, h64.out, by omega, sd.two.guard (Below.refl _ _) (fun j q => .inl (.inl q))⟩, (Ag.of_below F hb1).trans (sd.ag.mono fun k _ q => .inl q)⟩
/-- What a step ends with. -/
def StZ (F : Nat → Prop) (N R X : Nat) (S : Sg) (T : List PV) (m : Nat) (w : World) (e : Ending) (w' : World) : Prop := e = .returned (.bool true) ∧ (∃ S' T' m', (C64 S → C64 S') ∧ (LT T → LT T') ∧ m' ≤ m + 70 ∧ T'.length ≤ T.length + 1 ∧ Two F N R X S' S' T' T' m' w') ∧ Ag F w w'
theorem Two.tkv {S2 : Sg} {T2 : List PV} (h : Two F N R X S S2 T T2 m w) (a b k : Int) : (tkV S2 a b k).length ≤ 1000000 := by
  obtain ⟨B, BR, hB⟩ := h
  obtain ⟨P, v, g, hN, hS⟩ := hB.ref
  unfold tkV
  split
  · rename_i hk
    rw [List.getD_eq_getElem?_getD]
    cases e : (S2 a b)[k.toNat]? with
    | none => simp
    | some l =>
      have hm := List.mem_of_getElem? e
      rw [← hS] at hm
      obtain ⟨p, hp, rfl⟩ := List.mem_map.1 hm
      have := (hN.dat p (List.mem_filter.1 hp).1).2.2.1
      simp; omega
  · simp
theorem step_any (h : Two F N R X S S T T m w) (ha : StA F d A c w) (hm : m + 70 ≤ 1000000) (hT : T.length + 1 ≤ 1000000) :
    Calls Tryz.prog 8 #[.pointer (some ⟨N, 0, none⟩), .pointer (some ⟨R, 0, none⟩), .agg #[.int .i64 d.o, .int .i64 d.f, .int .i64 d.t, .int .i64 d.k, .slice A d.u.length c], .pointer (some ⟨X, 0, none⟩)] w (StZ F N R X S T m w) := by
  have hr := pickI_range d.o 7 (by decide)
  by_cases h3 : pickI d.o 7 = 3
  · have hV := h.tkv d.f d.t d.k
    exact (step_take h3 h ha hT hV).mono fun e w' ⟨q1, ⟨p, q2, q3⟩, q4⟩ => ⟨q1, ⟨_, _, m, fun q => c64_tk q _ _ _, fun q => q.snoc (by rw [q2]; exact hV), by omega, by simp, q3⟩, q4⟩
  by_cases h4 : pickI d.o 7 = 4
  · exact (step_drop h4 h ha).mono fun e w' ⟨q1, q3, q4⟩ => ⟨q1, ⟨_, _, m, fun q => c64_tk q _ _ _, id, by omega, by omega, q3⟩, q4⟩
  by_cases h5 : pickI d.o 7 = 5
  · exact (step_double h5 h ha (by omega)).mono fun e w' ⟨q1, q3, q4⟩ => ⟨q1, ⟨_, _, m + 1, fun q => c64_db q _ _ _, id, by omega, by omega, q3⟩, q4⟩
  by_cases h6 : pickI d.o 7 = 6
  · exact (step_many h6 h ha hm).mono fun e w' ⟨q1, ⟨S', m', q5, q2, q3⟩, q4⟩ => ⟨q1, ⟨S', _, m', q5, id, q2, by omega, q3⟩, q4⟩
  · exact (step_send (by omega) h ha (by omega)).mono fun e w' ⟨q1, q3, q4⟩ => ⟨q1, ⟨_, _, m + 1, fun q => c64_snd q _ _ _, id, by omega, by omega, q3⟩, q4⟩
end
end Go.Proofs.YtenkhbiikecegaaGreat

