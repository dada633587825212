/- net: NetLives. -/
import Derived.Test.YtenkhbiikecegaaGreatMStep
namespace Go.Proofs.YtenkhbiikecegaaGreat
open Go.RowKit Go.Maps Go.ChangeMaps
set_option linter.unusedVariables false
set_option linter.unusedSimpArgs false
set_option maxRecDepth 100000

theorem Dos.at_ {w : World} {K : Nat → Prop} {A : Option Addr} {c : Nat} {xs : List DoV} (h : Dos w K A c xs) {k : Nat} (hk : k < xs.length) :
    ∃ a d D e, A = some a ∧ Hid (xs[k]? = some d) ∧ (∀ j, j < 5 → w.cell? ((a.add (k * 5)).add j) = (doC d D e)[j]?) ∧ (K (a.add (k * 5)).block ∧ Rd w K D e (u8s (bI d.u))) ∧ (I64 d.o ∧ I64 d.f ∧ I64 d.t ∧ I64 d.k) := by
  obtain ⟨a, e, hc⟩ := h.2.2.2 (by rintro rfl; simp at hk)
  obtain ⟨D, d, hb, hcell, hr, _, _, hi⟩ := hc k _ (List.getElem?_eq_getElem hk)
  exact ⟨a, _, D, d, e, List.getElem?_eq_getElem hk, hcell, ⟨hb, hr⟩, hi⟩
theorem do5 {w : World} {p : Addr} {x : DoV} {D : Option Addr} {d : Nat} (h : ∀ j, j < 5 → w.cell? (p.add j) = (doC x D d)[j]?) :
    w.cell? p = some (.int .i64 x.o) ∧ w.cell? ⟨p.block, p.off + 1, none⟩ = some (.int .i64 x.f) ∧ w.cell? ⟨p.block, p.off + 2, none⟩ = some (.int .i64 x.t) ∧ w.cell? ⟨p.block, p.off + 3, none⟩ = some (.int .i64 x.k) ∧ w.cell? ⟨p.block, p.off + 4, none⟩ = some (.slice D x.u.length d) :=
  ⟨h 0 (by omega), h 1 (by omega), h 2 (by omega), h 3 (by omega), h 4 (by omega)⟩
/-- Both nets, new. -/
theorem two_new {w w1 w2 : World} {B BR : Nat → Prop} {N R : Nat} (hB : ∀ j, B j → w.heap.size ≤ j) (hN : NB B N (fun _ _ => []) [] w1) (h1 : Below w.heap.size w w1) (hBR : ∀ j, BR j → w1.heap.size ≤ j) (hR : RB BR R (fun _ _ => []) 0 w2) (h2 : Below w1.heap.size w1 w2) :
    Two (fun j => j < w.heap.size) N R w2.heap.size (fun _ _ => []) (fun _ _ => []) [] [] 0 (w2.alloc (.cells #[.slice none 0 0] 27)) := by
  have hs1 := h1.size
  have hs2 := h2.size
  have hb : Below w2.heap.size w2 (w2.alloc (.cells #[.slice none 0 0] 27)) := (Below.refl _ _).alloc (Nat.le_refl _) _
  refine ⟨B, BR, fun j q => by have := hB j q; omega, fun j q => ⟨by have := hBR j q; omega, fun q' => by have := hN.lt q'; have := hBR j q; omega⟩, (hN.below h2).below hb, hR.below hb, ⟨.slice none 0 0, 0, Bk.new w2 _ _, Row.nil _ _ _ _, ⟨by omega, fun q => by have := hN.lt q; omega, fun q => by have := hR.lt q; omega⟩, fun e => by cases e⟩, fun j q => by rw [World.size_alloc]; omega⟩
theorem c64_nil : C64 (fun _ _ => []) := fun _ _ => by simp
/-- The state ahead of a step. -/
structure LiS (w : World) (N R X k : Nat) (S : Sg) (T : List PV) (m : Nat) (wr : World) : Prop where
  two : Two (fun j => j < w.heap.size) N R X S S T T m wr
  c64 : C64 S
  hm : m ≤ 70 * k
  hT : T.length ≤ k
  lt : LT T
  bel : Below w.heap.size w wr
theorem LiS.below {w wr w' : World} {N R X k : Nat} {S : Sg} {T : List PV} {m : Nat} (h : LiS w N R X k S T m wr) (hb : Below wr.heap.size wr w') : LiS w N R X k S T m w' :=
  ⟨h.two.below hb, h.c64, h.hm, h.hT, h.lt, h.bel.trans (hb.mono h.bel.size)⟩
theorem lk_rdl {S : Sg} {A : Option Addr} {c : Nat} {L : List (Int × Int)} {w w' : World} (h : LkL S (.slice A L.length c) L w w') : RdL w' (fun g => w.heap.size ≤ g) A L := by
  obtain ⟨_, h2, h3, _⟩ := h
  obtain ⟨A', c', e, hr⟩ := owned_rdl h3 h2
  injection e with e
  rw [e]; exact hr
theorem Ag.bel {w w' : World} {n : Nat} (h : Ag (fun j => j < n) w w') (hn : n ≤ w.heap.size) : Below n w w' := h.below hn (fun _ q => q)
def tFs (p : PV) : Fs := ⟨p.val, (p.A.map Addr.block).getD 0, p.l.length⟩
def tC (T : List PV) (k : Nat) : List Value := match T[k]? with | some p => u8s p.l | none => []
theorem Dat.row {w : World} {K : Nat → Prop} {A : Option Addr} {c : Nat} {l : List Int} (h : Dat w K A c l) : Row w 5 1 (.slice A l.length c) ((A.map Addr.block).getD 0) l.length (u8s l) ∧ ∀ b, (Value.slice A l.length c).ownBlock = some b → K b ∧ b < w.heap.size := by
  obtain ⟨b, h1, h2⟩ := h
  rcases h1.2 with ⟨e1, e2⟩ | ⟨cap, cur, e1, hg, h3, h4, h5, h6⟩
  · injection e1 with e1 e3 e4
    subst e1 e4
    have : l = [] := List.eq_nil_of_length_eq_zero e2
    subst this
    exact ⟨Row.nil _ _ _ _, (fun b e => by cases e)⟩
  · injection e1 with e1 e3 e4
    subst e1 e4
    refine ⟨⟨h1.1, .inr ⟨c, cur, rfl, hg, h3, h4, h5, h6⟩⟩, fun b' e => ?_⟩
    injection e with e
    subst e
    exact h2 rfl
/-- What was told lies apart. -/
theorem Two.apart {F : Nat → Prop} {N R X : Nat} {S S2 : Sg} {T : List PV} {m : Nat} {w : World} (h : Two F N R X S S2 T T m w) : ∃ A c Sb, w.cell? ⟨X, 0, none⟩ = some (.slice A (T.map tFs).length c) ∧ Fl w 5 1 Sb (T.map tFs) (tC T) ∧ Outer w Sb A c (T.map tFs) ∧ ∀ b, Sb b → b < w.heap.size ∧ ¬ F b := by
  obtain ⟨B, BR, h⟩ := h
  obtain ⟨st, hN⟩ := h.net
  obtain ⟨v, g, h1, h2, h3, h4⟩ := h.told
  have hsb : ∀ b, (∃ p ∈ T, p.val.ownBlock = some b) → B b ∧ b < w.heap.size := by
    rintro b ⟨p, hp, e⟩
    have := (hN.told p hp).row.2 b e
    exact ⟨this.1.1, this.2⟩
  have hmap : (T.map tFs).map (·.v) = T.map PV.val := by rw [List.map_map]; rfl
  obtain ⟨A, c, hv, hle, hmx, hA⟩ : ∃ A c, v = .slice A T.length c ∧ T.length ≤ c ∧ c ≤ maxLen ∧ ((A = none ∧ c = 0 ∧ T = []) ∨ A = some ⟨g, 0, none⟩) := by
    rcases h2.2 with ⟨e1, e2⟩ | ⟨cap, cur, e1, hg, q3, q4, q5, q6⟩
    · exact ⟨none, 0, by rw [e1, e2], by omega, by decide, .inl ⟨rfl, rfl, List.eq_nil_of_length_eq_zero e2⟩⟩
    · exact ⟨_, cap, e1, q3, q4, .inr rfl⟩
  subst hv
  have hc := h1.cell 0
  refine ⟨A, c, fun b => ∃ p ∈ T, p.val.ownBlock = some b, by rw [List.length_map]; simpa using hc, ⟨fun k x hx => ?_, fun k x hx ho => ?_, fun k k' x x' hx hx' hne ho ho' => ?_⟩, ⟨?_, by rw [List.length_map]; exact hle, hmx⟩, fun b q => ⟨(hsb b q).2, fun q' => h.b0 b (hsb b q).1 q'⟩⟩
  · rw [List.getElem?_map] at hx
    obtain ⟨p, hp, rfl⟩ := Option.map_eq_some_iff.1 hx
    have := (hN.told p (List.mem_of_getElem? hp)).row.1
    unfold tC
    rw [hp]
    exact this
  · rw [List.getElem?_map] at hx
    obtain ⟨p, hp, rfl⟩ := Option.map_eq_some_iff.1 hx
    have hm := List.mem_of_getElem? hp
    exact ⟨⟨p, hm, ho⟩, (hsb _ ⟨p, hm, ho⟩).2⟩
  · rw [List.getElem?_map] at hx hx'
    obtain ⟨p, hp, rfl⟩ := Option.map_eq_some_iff.1 hx
    obtain ⟨p', hp', rfl⟩ := Option.map_eq_some_iff.1 hx'
    intro e
    exact ps_sep hN.sep hp' hp (Ne.symm hne) _ ho (by rw [e]; exact ho')
  · rw [hmap]
    rcases hA with ⟨rfl, rfl, rfl⟩ | rfl
    · exact Rd.none_ _ _ _ _ (fun _ => rfl)
    · have h4 := h4 rfl
      refine ⟨(fun e => by cases e), fun _ => ⟨_, rfl, ⟨fun q => h4.2.1 (hsb _ q).1, h4.1.2⟩, h2.cells (by simp [Value.ownBlock])⟩⟩
/-- Links at a place. -/
structure LiZ (F : Nat → Prop) (N R X k : Nat) (S : Sg) (T : List PV) (m : Nat) (w0 wr : World) : Prop where
  two : Two F N R X S S T T m wr
  c64 : C64 S
  hT : T.length ≤ k
  lt : LT T
  ag : Ag F w0 wr
theorem LiZ.below {F : Nat → Prop} {w0 wr w' : World} {N R X k : Nat} {S : Sg} {T : List PV} {m : Nat} (h : LiZ F N R X k S T m w0 wr) (hb : Below wr.heap.size wr w') : LiZ F N R X k S T m w0 w' :=
  ⟨h.two.below hb, h.c64, h.hT, h.lt, h.ag.trans (Ag.of_below F hb)⟩
theorem LiZ.mono {F : Nat → Prop} {w0 wr : World} {N R X k k' : Nat} {S : Sg} {T : List PV} {m : Nat} (h : LiZ F N R X k S T m w0 wr) (hk : k ≤ k') : LiZ F N R X k' S T m w0 wr :=
  ⟨h.two, h.c64, Nat.le_trans h.hT hk, h.lt, h.ag⟩
theorem tk0_len {S : Sg} {x y : Int} {g : Nat} (h : (S x y).length = g + 1) : (tkS S x y 0 x y).length = g := by
  have : (0 : Int) ≤ 0 ∧ (0 : Int) < ((S x y).length : Int) := ⟨Int.le_refl _, by omega⟩
  rw [tkS, if_pos this, upd, if_pos ⟨rfl, rfl⟩, List.length_eraseIdx]
  simp [h]
theorem owns_cell {w : World} {base e size n c g : Nat} {xs : List Value} (h : w.ownsRow base e size (.slice (some ⟨g, 0, none⟩) n c) n xs) {j : Nat} (hj : j < xs.length) : (∃ u, w.cell? ⟨g, j, none⟩ = some u) ∧ w.frozen? ⟨g, j, none⟩ = false := by
  rcases h.2 with ⟨h', _⟩ | ⟨g', cap, cur, h', hb, hg, h1, h2, h3, h4⟩
  · cases h'
  · injection h' with e1 _ e3
    injection e1 with e1
    injection e1 with e1
    subst e1 e3
    have hadd : (⟨g, 0, none⟩ : Addr).add j = ⟨g, j, none⟩ := by unfold Addr.add; split <;> simp_all
    have := h.cells (g := g) rfl j xs[j] (List.getElem?_eq_getElem hj)
    rw [hadd] at this
    exact ⟨⟨_, this⟩, frozen_of_row w g j cur e hg⟩
theorem owns_max {w : World} {base e size n : Nat} {A : Option Addr} {c : Nat} {xs : List Value} (h : w.ownsRow base e size (.slice A n c) n xs) : n ≤ 9223372036854775807 := by
  obtain ⟨n1, n2⟩ := owns_none h
  cases A with
  | none => rw [(n1 rfl).1]; decide
  | some ad => obtain ⟨_, _, _, h1, h2, _⟩ := n2 ad rfl; unfold maxLen at h2; omega
set_option maxHeartbeats 8000000 in
theorem NetLives_any (A : Option Addr) (c : Nat) (ds : List DoV) (w : World) (h : Dos w (fun b => b < w.heap.size) A c ds) :
    Calls Tryz.prog 3 #[.slice A ds.length c] w fun e w' => e = .returned (.bool true) ∧ Below w.heap.size w w' := by
  have hmax : ds.length ≤ maxLen := Nat.le_trans h.2.1 h.2.2.1
  unfold maxLen at hmax
  have H := Lib.hid h
  clear h
  go_enter Tryz.func3, Tryz.ntmps3
  go_wp2_with fail
  refine (op_new w).mono ?_
  rintro _ w1 ⟨N, rfl, ⟨B, hB, hN⟩, b1⟩
  go_wp2_with fail
  refine (rnew_any w1).mono ?_
  rintro _ w2 ⟨R, rfl, ⟨BR, hBR, hR⟩, b2⟩
  have hL0 := two_new hB hN b1 hBR hR b2
  have b3 : Below w.heap.size w (w2.alloc (.cells #[.slice none 0 0] 27)) := (b1.trans (b2.mono b1.size)).alloc (by have := b1.size; have := b2.size; omega) _
  clear hB hBR hN hR
  go_wp2_with fail
  generalize hX : w2.heap.size = X at *
  generalize (w2.alloc (.cells #[.slice none 0 0] 27)) = w3 at *
  clear b1 b2 hX
  go_loopw [6] (fun i wr => ∃ (k : Nat) (S : Sg) (T : List PV) (m : Nat), k ≤ ds.length ∧ k ≤ 100 ∧ i = .int .i64 k ∧ LiS w N R X k S T m wr) (fun i _ => ds.length - (intOf i).toNat)
  case atStart => exact ⟨0, _, _, _, Nat.zero_le _, Nat.zero_le _, rfl, hL0, c64_nil, by omega, by simp, (fun p hp => by cases hp), b3⟩
  case round =>
    clear hL0 b3
    obtain ⟨k, S, T, m, hk, hk100, rfl, hI⟩ := hrel
    by_cases hlt : k < ds.length ∧ k < 100
    · obtain ⟨hlt, hlt2⟩ := hlt
      have d1 : decide ((k : Int) < (ds.length : Int)) = true := decide_eq_true (by omega)
      have d2 : decide ((k : Int) < 100) = true := decide_eq_true (by omega)
      have hds : Dos wr (fun b => b < w.heap.size) A c ds := H.out.keep (fun b hb => hI.bel.block b hb) (fun _ q => q)
      obtain ⟨a, d, D, e, rfl, hxk, hca, ⟨hab, hrd⟩, i1, i2, i3, i4⟩ := hds.at_ hlt
      obtain ⟨c0, c1, c2, c3, c4⟩ := do5 hca
      clear hca
      by_cases hbig : 500 < d.u.length
      · have d3 : decide ((500 : Int) < (d.u.length : Int)) = true := decide_eq_true (by omega)
        go_wp2_with fail
        refine (awake_any wr).mono ?_
        rintro _ w4 ⟨rfl, b4⟩
        go_wp2_with fail
        go_ret
        exact ⟨rfl, hI.bel.trans (b4.mono hI.bel.size)⟩
      have d3 : decide ((500 : Int) < (d.u.length : Int)) = false := decide_eq_false (by omega)
      have sa : StA (fun j => j < w.heap.size) d D e wr := ⟨⟨_, fun _ q => q, hrd⟩, by omega, i2, i3, i4⟩
      have HI := Lib.hid (And.intro i2 i3)
      clear i1 i2 i3 i4
      have hB : ∀ W', Ag (fun j => j < w.heap.size) wr W' → (W'.cell? (a.add (k * 5)) = some (.int .i64 d.o) ∧ W'.cell? ⟨(a.add (k * 5)).block, (a.add (k * 5)).off + 1, none⟩ = some (.int .i64 d.f) ∧ W'.cell? ⟨(a.add (k * 5)).block, (a.add (k * 5)).off + 2, none⟩ = some (.int .i64 d.t) ∧ W'.cell? ⟨(a.add (k * 5)).block, (a.add (k * 5)).off + 3, none⟩ = some (.int .i64 d.k) ∧ W'.cell? ⟨(a.add (k * 5)).block, (a.add (k * 5)).off + 4, none⟩ = some (.slice D d.u.length e)) := fun W' hW' =>
        have hq := hW'.block _ (hI.two.flt _ hab) hab
        have hc : ∀ j, W'.cell? ⟨(a.add (k * 5)).block, j, none⟩ = wr.cell? ⟨(a.add (k * 5)).block, j, none⟩ := fun j => World.cell?_of_block hq
        ⟨(World.cell?_of_block hq).trans c0, (hc _).trans c1, (hc _).trans c2, (hc _).trans c3, (hc _).trans c4⟩
      have hmk := hI.hm
      have hTk := hI.hT
      go_wp2_with fail
      refine wp_region_held_drew (S := fun W' => W'.cell? (a.add (k * 5)) = some (.int .i64 d.o) ∧ W'.cell? ⟨(a.add (k * 5)).block, (a.add (k * 5)).off + 1, none⟩ = some (.int .i64 d.f) ∧ W'.cell? ⟨(a.add (k * 5)).block, (a.add (k * 5)).off + 2, none⟩ = some (.int .i64 d.t) ∧ W'.cell? ⟨(a.add (k * 5)).block, (a.add (k * 5)).off + 3, none⟩ = some (.int .i64 d.k) ∧ W'.cell? ⟨(a.add (k * 5)).block, (a.add (k * 5)).off + 4, none⟩ = some (.slice D d.u.length e)) (by kernel_rfl) (hB _ (Ag.of_below _ (Below.refl _ _).drew)) (fun hS => ?_)
      refine wpAnyH_take (i := 0) (v := ?_) rfl (by kernel_rfl) (by kernel_rfl) (by kernel_rfl) (fun _ _ _ h => h) (Or.inl ⟨by rfl, ?_⟩) hS ?_
      rotate_left 1
      · intro w' hSw
        go_simp <;> with_reducible rfl
      try simp only [List.getElem_toArray, List.getElem_cons_zero, List.getElem_cons_succ, Act.put, List.setIfInBounds_toArray, List.set_cons_zero, List.set_cons_succ]
      refine wpAnyH_take (i := 1) (v := ?_) rfl (by kernel_rfl) (by kernel_rfl) (by kernel_rfl) (fun _ _ _ h => h) (Or.inl ⟨by rfl, ?_⟩) hS ?_
      rotate_left 1
      · intro w' hSw
        go_simp <;> with_reducible rfl
      try simp only [List.getElem_toArray, List.getElem_cons_zero, List.getElem_cons_succ, Act.put, List.setIfInBounds_toArray, List.set_cons_zero, List.set_cons_succ]
      refine wpAnyH_take (i := 2) (v := ?_) rfl (by kernel_rfl) (by kernel_rfl) (by kernel_rfl) (fun _ _ _ h => h) (Or.inl ⟨by rfl, ?_⟩) hS ?_
      rotate_left 1
      · intro w' hSw
        go_simp <;> with_reducible rfl
      try simp only [List.getElem_toArray, List.getElem_cons_zero, List.getElem_cons_succ, Act.put, List.setIfInBounds_toArray, List.set_cons_zero, List.set_cons_succ]
      refine wpAnyH_take (i := 3) (v := ?_) rfl (by kernel_rfl) (by kernel_rfl) (by kernel_rfl) (fun _ _ _ h => h) (Or.inl ⟨by rfl, ?_⟩) hS ?_
      rotate_left 1
      · intro w' hSw
        go_simp <;> with_reducible rfl
      try simp only [List.getElem_toArray, List.getElem_cons_zero, List.getElem_cons_succ, Act.put, List.setIfInBounds_toArray, List.set_cons_zero, List.set_cons_succ]
      refine wpAnyH_take (i := 4) (v := ?_) rfl (by kernel_rfl) (by kernel_rfl) (by kernel_rfl) (fun _ _ _ h => h) (Or.inl ⟨by rfl, ?_⟩) hS ?_
      rotate_left 1
      · intro w' hSw
        go_simp <;> with_reducible rfl
      try simp only [List.getElem_toArray, List.getElem_cons_zero, List.getElem_cons_succ, Act.put, List.setIfInBounds_toArray, List.set_cons_zero, List.set_cons_succ]
      refine wpAnyH_take (i := 5) (v := ?_) rfl (by kernel_rfl) (by kernel_rfl) (by kernel_rfl) (fun _ _ _ h => h) (Or.inl ⟨by rfl, ?_⟩) hS ?_
      rotate_left 1
      · intro w' hSw
        go_simp <;> with_reducible rfl
      try simp only [List.getElem_toArray, List.getElem_cons_zero, List.getElem_cons_succ, Act.put, List.setIfInBounds_toArray, List.set_cons_zero, List.set_cons_succ]
      refine wpAnyH_ready (rs := [6]) (by kernel_rfl) (by simp) (AllReadyH.cons rfl (fun K hK => ?_) AllReadyH.nil)
      go_simp
      (with_reducible refine (step_any (hI.two.below (Below.refl _ _).drew) (sa.ag (Ag.of_below _ (Below.refl _ _).drew) hI.two.flt) (by omega) (by omega)).mono ?_)
      rintro _ w4 ⟨rfl, ⟨S4, T4, m4, q64, qlt, hm4, hT4, q1⟩, q2⟩
      have hI4 : LiS w N R X (k + 1) S4 T4 m4 w4 := ⟨q1, q64 hI.c64, by omega, by omega, qlt hI.lt, hI.bel.drew.trans (q2.bel hI.bel.size)⟩
      have hA4 : Ag (fun j => j < w.heap.size) wr w4 := (Ag.of_below _ (Below.refl wr.heap.size wr).drew).trans q2
      have HM4 : m4 ≤ 1000000 := by omega
      clear q1 q2 q64 qlt hm4 hT4
      go_simp
      refine hK _ _ (hB _ hA4) (fun hS => ?_)
      clear hK K
      try simp only [List.getElem_toArray, List.getElem_cons_zero, List.getElem_cons_succ, Act.put, List.setIfInBounds_toArray, List.set_cons_zero, List.set_cons_succ]
      refine wpAnyH_take (i := 7) (v := ?_) rfl (by kernel_rfl) (by kernel_rfl) (by kernel_rfl) (fun _ _ _ h => h) (Or.inl ⟨by rfl, ?_⟩) hS ?_
      rotate_left 1
      · intro w' hSw
        go_simp <;> with_reducible rfl
      try simp only [List.getElem_toArray, List.getElem_cons_zero, List.getElem_cons_succ, Act.put, List.setIfInBounds_toArray, List.set_cons_zero, List.set_cons_succ]
      refine wpAnyH_take (i := 8) (v := ?_) rfl (by kernel_rfl) (by kernel_rfl) (by kernel_rfl) (fun _ _ _ h => h) (Or.inl ⟨by rfl, ?_⟩) hS ?_
      rotate_left 1
      · intro w' hSw
        go_simp <;> with_reducible rfl
      try simp only [List.getElem_toArray, List.getElem_cons_zero, List.getElem_cons_succ, Act.put, List.setIfInBounds_toArray, List.set_cons_zero, List.set_cons_succ]
      refine wpAnyH_take (i := 9) (v := ?_) rfl (by kernel_rfl) (by kernel_rfl) (by kernel_rfl) (fun _ _ _ h => h) (Or.inl ⟨by go_simp, ?_⟩) hS ?_
      rotate_left 1
      · intro w' hSw
        go_simp <;> with_reducible rfl
      try simp only [List.getElem_toArray, List.getElem_cons_zero, List.getElem_cons_succ, Act.put, List.setIfInBounds_toArray, List.set_cons_zero, List.set_cons_succ]
      refine wpAnyH_take (i := 10) (v := ?_) rfl (by kernel_rfl) (by kernel_rfl) (by kernel_rfl) (fun _ _ _ h => h) (Or.inl ⟨by go_simp, ?_⟩) hS ?_
      rotate_left 1
      · intro w' hSw
        go_simp <;> with_reducible rfl
      try simp only [List.getElem_toArray, List.getElem_cons_zero, List.getElem_cons_succ, Act.put, List.setIfInBounds_toArray, List.set_cons_zero, List.set_cons_succ]
      refine wpAnyH_take (i := 11) (v := ?_) rfl (by kernel_rfl) (by kernel_rfl) (by kernel_rfl) (fun _ _ _ h => h) (Or.inl ⟨by go_simp, ?_⟩) hS ?_
      rotate_left 1
      · intro w' hSw
        go_simp <;> with_reducible rfl
      try simp only [List.getElem_toArray, List.getElem_cons_zero, List.getElem_cons_succ, Act.put, List.setIfInBounds_toArray, List.set_cons_zero, List.set_cons_succ]
      refine wpAnyH_take (i := 12) (v := ?_) rfl (by kernel_rfl) (by kernel_rfl) (by kernel_rfl) (fun _ _ _ h => h) (Or.inl ⟨by go_simp, ?_⟩) hS ?_
      rotate_left 1
      · intro w' hSw
        go_simp <;> with_reducible rfl
      try simp only [List.getElem_toArray, List.getElem_cons_zero, List.getElem_cons_succ, Act.put, List.setIfInBounds_toArray, List.set_cons_zero, List.set_cons_succ]
      refine wpAnyH_take (i := 13) (v := ?_) rfl (by kernel_rfl) (by kernel_rfl) (by kernel_rfl) (fun _ _ _ h => h) (Or.inl ⟨by go_simp, ?_⟩) hS ?_
      rotate_left 1
      · intro w' hSw
        go_simp <;> with_reducible rfl
      try simp only [List.getElem_toArray, List.getElem_cons_zero, List.getElem_cons_succ, Act.put, List.setIfInBounds_toArray, List.set_cons_zero, List.set_cons_succ]
      refine wpAnyH_take (i := 14) (v := ?_) rfl (by kernel_rfl) (by kernel_rfl) (by kernel_rfl) (fun _ _ _ h => h) (Or.inl ⟨by go_simp, ?_⟩) hS ?_
      rotate_left 1
      · intro w' hSw
        go_simp <;> with_reducible rfl
      try simp only [List.getElem_toArray, List.getElem_cons_zero, List.getElem_cons_succ, Act.put, List.setIfInBounds_toArray, List.set_cons_zero, List.set_cons_succ]
      refine wpAnyH_take (i := 15) (v := ?_) rfl (by kernel_rfl) (by kernel_rfl) (by kernel_rfl) (fun _ _ _ h => h) (Or.inl ⟨by go_simp, ?_⟩) hS ?_
      rotate_left 1
      · intro w' hSw
        go_simp <;> with_reducible rfl
      try simp only [List.getElem_toArray, List.getElem_cons_zero, List.getElem_cons_succ, Act.put, List.setIfInBounds_toArray, List.set_cons_zero, List.set_cons_succ]
      refine wpAnyH_take (i := 16) (v := ?_) rfl (by kernel_rfl) (by kernel_rfl) (by kernel_rfl) (fun _ _ _ h => h) (Or.inl ⟨by go_simp, ?_⟩) hS ?_
      rotate_left 1
      · intro w' hSw
        go_simp <;> with_reducible rfl
      try simp only [List.getElem_toArray, List.getElem_cons_zero, List.getElem_cons_succ, Act.put, List.setIfInBounds_toArray, List.set_cons_zero, List.set_cons_succ]
      refine wpAnyH_take (i := 17) (v := ?_) rfl (by kernel_rfl) (by kernel_rfl) (by kernel_rfl) (fun _ _ _ h => h) (Or.inl ⟨by go_simp, ?_⟩) hS ?_
      rotate_left 1
      · intro w' hSw
        go_simp <;> with_reducible rfl
      try simp only [List.getElem_toArray, List.getElem_cons_zero, List.getElem_cons_succ, Act.put, List.setIfInBounds_toArray, List.set_cons_zero, List.set_cons_succ]
      refine wpAnyH_take (i := 18) (v := ?_) rfl (by kernel_rfl) (by kernel_rfl) (by kernel_rfl) (fun _ _ _ h => h) (Or.inl ⟨by go_simp, ?_⟩) hS ?_
      rotate_left 1
      · intro w' hSw
        go_simp <;> with_reducible rfl
      try simp only [List.getElem_toArray, List.getElem_cons_zero, List.getElem_cons_succ, Act.put, List.setIfInBounds_toArray, List.set_cons_zero, List.set_cons_succ]
      refine wpAnyH_take (i := 19) (v := ?_) rfl (by kernel_rfl) (by kernel_rfl) (by kernel_rfl) (fun _ _ _ h => h) (Or.inl ⟨by go_simp, ?_⟩) hS ?_
      rotate_left 1
      · intro w' hSw
        go_simp <;> with_reducible rfl
      try simp only [List.getElem_toArray, List.getElem_cons_zero, List.getElem_cons_succ, Act.put, List.setIfInBounds_toArray, List.set_cons_zero, List.set_cons_succ]
      refine wpAnyH_take (i := 21) (v := ?_) rfl (by kernel_rfl) (by kernel_rfl) (by kernel_rfl) (fun _ _ _ h => h) (Or.inl ⟨by go_simp, ?_⟩) hS ?_
      rotate_left 1
      · intro w' hSw
        go_simp <;> with_reducible rfl
      try simp only [List.getElem_toArray, List.getElem_cons_zero, List.getElem_cons_succ, Act.put, List.setIfInBounds_toArray, List.set_cons_zero, List.set_cons_succ]
      refine wpAnyH_take (i := 22) (v := ?_) rfl (by kernel_rfl) (by kernel_rfl) (by kernel_rfl) (fun _ _ _ h => h) (Or.inl ⟨by go_simp, ?_⟩) hS ?_
      rotate_left 1
      · intro w' hSw
        go_simp <;> with_reducible rfl
      try simp only [List.getElem_toArray, List.getElem_cons_zero, List.getElem_cons_succ, Act.put, List.setIfInBounds_toArray, List.set_cons_zero, List.set_cons_succ]
      refine wpAnyH_take (i := 23) (v := ?_) rfl (by kernel_rfl) (by kernel_rfl) (by kernel_rfl) (fun _ _ _ h => h) (Or.inl ⟨by go_simp, ?_⟩) hS ?_
      rotate_left 1
      · intro w' hSw
        go_simp <;> with_reducible rfl
      try simp only [List.getElem_toArray, List.getElem_cons_zero, List.getElem_cons_succ, Act.put, List.setIfInBounds_toArray, List.set_cons_zero, List.set_cons_succ]
      refine wpAnyH_take (i := 24) (v := ?_) rfl (by kernel_rfl) (by kernel_rfl) (by kernel_rfl) (fun _ _ _ h => h) (Or.inl ⟨by go_simp, ?_⟩) hS ?_
      rotate_left 1
      · intro w' hSw
        go_simp <;> with_reducible rfl
      try simp only [List.getElem_toArray, List.getElem_cons_zero, List.getElem_cons_succ, Act.put, List.setIfInBounds_toArray, List.set_cons_zero, List.set_cons_succ]
      refine wpAnyH_take (i := 25) (v := ?_) rfl (by kernel_rfl) (by kernel_rfl) (by kernel_rfl) (fun _ _ _ h => h) (Or.inl ⟨by go_simp, ?_⟩) hS ?_
      rotate_left 1
      · intro w' hSw
        go_simp <;> with_reducible rfl
      try simp only [List.getElem_toArray, List.getElem_cons_zero, List.getElem_cons_succ, Act.put, List.setIfInBounds_toArray, List.set_cons_zero, List.set_cons_succ]
      refine wpAnyH_take (i := 26) (v := ?_) rfl (by kernel_rfl) (by kernel_rfl) (by kernel_rfl) (fun _ _ _ h => h) (Or.inl ⟨by go_simp, ?_⟩) hS ?_
      rotate_left 1
      · intro w' hSw
        go_simp <;> with_reducible rfl
      try simp only [List.getElem_toArray, List.getElem_cons_zero, List.getElem_cons_succ, Act.put, List.setIfInBounds_toArray, List.set_cons_zero, List.set_cons_succ]
      refine wpAnyH_take (i := 27) (v := ?_) rfl (by kernel_rfl) (by kernel_rfl) (by kernel_rfl) (fun _ _ _ h => h) (Or.inl ⟨by go_simp, ?_⟩) hS ?_
      rotate_left 1
      · intro w' hSw
        go_simp <;> with_reducible rfl
      try simp only [List.getElem_toArray, List.getElem_cons_zero, List.getElem_cons_succ, Act.put, List.setIfInBounds_toArray, List.set_cons_zero, List.set_cons_succ]
      refine wpAnyH_take (i := 28) (v := ?_) rfl (by kernel_rfl) (by kernel_rfl) (by kernel_rfl) (fun _ _ _ h => h) (Or.inl ⟨by go_simp, ?_⟩) hS ?_
      rotate_left 1
      · intro w' hSw
        go_simp <;> with_reducible rfl
      try simp only [List.getElem_toArray, List.getElem_cons_zero, List.getElem_cons_succ, Act.put, List.setIfInBounds_toArray, List.set_cons_zero, List.set_cons_succ]
      refine wpAnyH_take (i := 29) (v := ?_) rfl (by kernel_rfl) (by kernel_rfl) (by kernel_rfl) (fun _ _ _ h => h) (Or.inl ⟨by go_simp, ?_⟩) hS ?_
      rotate_left 1
      · intro w' hSw
        go_simp <;> with_reducible rfl
      try simp only [List.getElem_toArray, List.getElem_cons_zero, List.getElem_cons_succ, Act.put, List.setIfInBounds_toArray, List.set_cons_zero, List.set_cons_succ]
      refine wpAnyH_take (i := 30) (v := ?_) rfl (by kernel_rfl) (by kernel_rfl) (by kernel_rfl) (fun _ _ _ h => h) (Or.inl ⟨by go_simp, ?_⟩) hS ?_
      rotate_left 1
      · intro w' hSw
        go_simp <;> with_reducible rfl
      try simp only [List.getElem_toArray, List.getElem_cons_zero, List.getElem_cons_succ, Act.put, List.setIfInBounds_toArray, List.set_cons_zero, List.set_cons_succ]
      refine wpAnyH_take (i := 31) (v := ?_) rfl (by kernel_rfl) (by kernel_rfl) (by kernel_rfl) (fun _ _ _ h => h) (Or.inl ⟨by go_simp, ?_⟩) hS ?_
      rotate_left 1
      · intro w' hSw
        go_simp <;> with_reducible rfl
      try simp only [List.getElem_toArray, List.getElem_cons_zero, List.getElem_cons_succ, Act.put, List.setIfInBounds_toArray, List.set_cons_zero, List.set_cons_succ]
      refine wpAnyH_ready (rs := [20]) (by kernel_rfl) (by simp) (AllReadyH.cons rfl (fun K hK => ?_) AllReadyH.nil)
      go_simp
      (with_reducible refine (two_wait hI4.two d.f d.t HI.out.1 HI.out.2).mono ?_)
      rintro _ w5 ⟨rfl, hb5⟩
      have hI5 := hI4.below hb5
      have hA5 := hA4.trans (Ag.of_below _ hb5)
      clear hb5
      go_simp
      refine hK _ _ (hB _ hA5) (fun hS => ?_)
      clear hK K
      try simp only [List.getElem_toArray, List.getElem_cons_zero, List.getElem_cons_succ, Act.put, List.setIfInBounds_toArray, List.set_cons_zero, List.set_cons_succ]
      refine wpAnyH_ready (rs := [32]) (by kernel_rfl) (by simp) (AllReadyH.cons rfl (fun K hK => ?_) AllReadyH.nil)
      go_simp
      (with_reducible refine (two_rwait hI5.two d.f d.t).mono ?_)
      rintro _ _ ⟨rfl, rfl⟩
      go_simp
      refine hK _ _ (hB _ hA5) (fun hS => ?_)
      clear hK K
      try simp only [List.getElem_toArray, List.getElem_cons_zero, List.getElem_cons_succ, Act.put, List.setIfInBounds_toArray, List.set_cons_zero, List.set_cons_succ]
      refine wpAnyH_take (i := 33) (v := ?_) rfl (by kernel_rfl) (by kernel_rfl) (by kernel_rfl) (fun _ _ _ h => h) (Or.inl ⟨by go_simp, ?_⟩) hS ?_
      rotate_left 1
      · intro w' hSw
        go_simp <;> with_reducible rfl
      try simp only [List.getElem_toArray, List.getElem_cons_zero, List.getElem_cons_succ, Act.put, List.setIfInBounds_toArray, List.set_cons_zero, List.set_cons_succ]
      refine wpAnyH_take (i := 34) (v := ?_) rfl (by kernel_rfl) (by kernel_rfl) (by kernel_rfl) (fun _ _ _ h => h) (Or.inl ⟨by rfl, ?_⟩) hS ?_
      rotate_left 1
      · intro w' hSw
        go_simp <;> with_reducible rfl
      try simp only [List.getElem_toArray, List.getElem_cons_zero, List.getElem_cons_succ, Act.put, List.setIfInBounds_toArray, List.set_cons_zero, List.set_cons_succ]
      refine wpAnyH_take (i := 35) (v := ?_) rfl (by kernel_rfl) (by kernel_rfl) (by kernel_rfl) (fun _ _ _ h => h) (Or.inl ⟨by rfl, ?_⟩) hS ?_
      rotate_left 1
      · intro w' hSw
        go_simp <;> with_reducible rfl
      try simp only [List.getElem_toArray, List.getElem_cons_zero, List.getElem_cons_succ, Act.put, List.setIfInBounds_toArray, List.set_cons_zero, List.set_cons_succ]
      refine wpAnyH_take (i := 36) (v := ?_) rfl (by kernel_rfl) (by kernel_rfl) (by kernel_rfl) (fun _ _ _ h => h) (Or.inl ⟨by go_simp, ?_⟩) hS ?_
      rotate_left 1
      · intro w' hSw
        go_simp <;> with_reducible rfl
      try simp only [List.getElem_toArray, List.getElem_cons_zero, List.getElem_cons_succ, Act.put, List.setIfInBounds_toArray, List.set_cons_zero, List.set_cons_succ]
      refine wpAnyH_take (i := 38) (v := ?_) rfl (by kernel_rfl) (by kernel_rfl) (by kernel_rfl) (fun _ _ _ h => h) (Or.inl ⟨by go_simp, ?_⟩) hS ?_
      rotate_left 1
      · intro w' hSw
        go_simp <;> with_reducible rfl
      try simp only [List.getElem_toArray, List.getElem_cons_zero, List.getElem_cons_succ, Act.put, List.setIfInBounds_toArray, List.set_cons_zero, List.set_cons_succ]
      refine wpAnyH_ready (rs := [37]) (by kernel_rfl) (by simp) (AllReadyH.cons rfl (fun K hK => ?_) AllReadyH.nil)
      go_simp
      (with_reducible refine (two_links hI5.two).mono ?_)
      rintro _ w6 ⟨A6, c6, L6, rfl, l6⟩
      have rd6 := lk_rdl l6
      have hb6 := l6.2.2.2
      have hI6 := hI5.below hb6
      have hA6 := hA5.trans (Ag.of_below _ hb6)
      have HL6 := Lib.hid l6
      clear hb6 l6
      go_simp
      refine hK _ _ (hB _ hA6) (fun hS => ?_)
      clear hK K
      try simp only [List.getElem_toArray, List.getElem_cons_zero, List.getElem_cons_succ, Act.put, List.setIfInBounds_toArray, List.set_cons_zero, List.set_cons_succ]
      refine wpAnyH_ready (rs := [39]) (by kernel_rfl) (by simp) (AllReadyH.cons rfl (fun K hK => ?_) AllReadyH.nil)
      go_simp
      (with_reducible refine (two_rlinks hI6.two).mono ?_)
      rintro _ w7 ⟨A7, c7, L7, rfl, l7, hl7⟩
      obtain rfl : L7 = L6 := OnL.one l7.1 HL6.out.1
      have rd7 := lk_rdl l7
      have hb7 := l7.2.2.2
      have hI7 := hI6.below hb7
      have hA7 := hA6.trans (Ag.of_below _ hb7)
      have rd67 := rd6.below hb7
      clear hb7 l7 HL6
      go_simp
      refine hK _ _ (hB _ hA7) (fun hS => ?_)
      clear hK K
      try simp only [List.getElem_toArray, List.getElem_cons_zero, List.getElem_cons_succ, Act.put, List.setIfInBounds_toArray, List.set_cons_zero, List.set_cons_succ]
      refine wpAnyH_ready (rs := [40]) (by kernel_rfl) (by simp) (AllReadyH.cons rfl (fun K hK => ?_) AllReadyH.nil)
      go_simp
      have heq := links_any A6 A7 c6 c7 L7 L7 w7 rd67 rd7 (by omega) (by omega)
      rw [decide_eq_true (rfl : L7 = L7)] at heq
      (with_reducible refine heq.mono ?_)
      rintro _ w8 ⟨rfl, kq, rfl⟩
      clear heq
      have hI8 := hI7.below (below_drewN w7 kq)
      have hA8 := hA7.trans (Ag.of_below _ (below_drewN w7 kq))
      go_simp
      refine hK _ _ (hB _ hA8) (fun hS => ?_)
      clear hK K
      try simp only [List.getElem_toArray, List.getElem_cons_zero, List.getElem_cons_succ, Act.put, List.setIfInBounds_toArray, List.set_cons_zero, List.set_cons_succ]
      refine wpAnyH_take (i := 41) (v := ?_) rfl (by kernel_rfl) (by kernel_rfl) (by kernel_rfl) (fun _ _ _ h => h) (Or.inl ⟨by go_simp, ?_⟩) hS ?_
      rotate_left 1
      · intro w' hSw
        go_simp <;> with_reducible rfl
      try simp only [List.getElem_toArray, List.getElem_cons_zero, List.getElem_cons_succ, Act.put, List.setIfInBounds_toArray, List.set_cons_zero, List.set_cons_succ]
      refine wpAnyH_take (i := 42) (v := ?_) rfl (by kernel_rfl) (by kernel_rfl) (by kernel_rfl) (fun _ _ _ h => h) (Or.inl ⟨by rfl, ?_⟩) hS ?_
      rotate_left 1
      · intro w' hSw
        go_simp <;> with_reducible rfl
      try simp only [List.getElem_toArray, List.getElem_cons_zero, List.getElem_cons_succ, Act.put, List.setIfInBounds_toArray, List.set_cons_zero, List.set_cons_succ]
      refine wpAnyH_done (by kernel_rfl) ?_ _
      go_wp2_with fail
      go_roundw
      case rel => exact ⟨k + 1, _, _, _, by omega, by omega, by go_num, hI8⟩
      case measure => simp [intOf]; omega
    · by_cases h1 : k < ds.length
      · have d1 : decide ((k : Int) < (ds.length : Int)) = true := decide_eq_true (by omega)
        have d2 : decide ((k : Int) < 100) = false := decide_eq_false (by omega)
        go_wp2_with fail
        (with_reducible refine (two_rlinks hI.two).mono ?_)
        rintro _ w5 ⟨A5, c5, L5, rfl, l5, hl5⟩
        have rd5 := lk_rdl l5
        have hb5 := l5.2.2.2
        have hmm := hI.hm
        have hI5 : LiZ (fun j => j < w.heap.size ∨ (wr.heap.size ≤ j ∧ j < w5.heap.size)) N R X (k + 64 * 0) S T m w5 w5 := ⟨hI.two.guard hb5 (fun j q => q), hI.c64, hI.hT, hI.lt, Ag.refl _ _⟩
        have hbel := hI.bel.trans (hb5.mono hI.bel.size)
        have hL5 : L5.length ≤ 7000 := by omega
        clear l5 hl5 hI hb5
        go_wp2_with fail
        obtain ⟨wo, hwo⟩ : ∃ wo : World, Hid (wo = wr) := ⟨_, Lib.hid rfl⟩
        rw [← hwo.out] at rd5 hI5
        go_loopw [8] (fun i wx => ∃ (q : Nat) (S' : Sg) (T' : List PV), q ≤ L5.length ∧ i = .int .i64 q ∧ LiZ (fun j => j < w.heap.size ∨ (wo.heap.size ≤ j ∧ j < w5.heap.size)) N R X (k + 64 * q) S' T' m w5 wx) (fun i _ => L5.length - (intOf i).toNat)
        case atStart => exact ⟨0, S, T, Nat.zero_le _, rfl, hI5⟩
        case round =>
          clear hI5
          obtain ⟨q, S', T', hq, rfl, hZ⟩ := hrel
          by_cases hlq : q < L5.length
          · have e1 : decide ((q : Int) < (L5.length : Int)) = true := decide_eq_true (by omega)
            obtain ⟨g5, x5, y5, rfl, hxy, ix, iy, a0, a1⟩ := rd5.at_ hlq
            have hg5 : wo.heap.size ≤ g5 ∧ g5 < w5.heap.size := by
              obtain ⟨g', e', hg', _⟩ := rd5.2 (by rintro rfl; simp at hlq)
              injection e' with e'
              injection e' with e'
              subst e'
              exact hg'
            have HXY := Lib.hid hxy
            clear hxy
            have hC : ∀ W', Ag (fun j => j < w.heap.size ∨ (wo.heap.size ≤ j ∧ j < w5.heap.size)) w5 W' → W'.cell? ⟨g5, q * 2, none⟩ = some (.int .i64 x5) ∧ W'.cell? ⟨g5, q * 2 + 1, none⟩ = some (.int .i64 y5) := fun W' hW' =>
              have hq' := hW'.block g5 hg5.2 (.inr hg5)
              ⟨(World.cell?_of_block hq').trans a0, (World.cell?_of_block hq').trans a1⟩
            clear a0 a1
            go_wp2_with fail
            go_loopg [82] (S' x5 y5).length (fun g _ wx => ∃ (S2 : Sg) (T2 : List PV), LiZ (fun j => j < w.heap.size ∨ (wo.heap.size ≤ j ∧ j < w5.heap.size)) N R X (k + 64 * q + 64) S2 T2 m w5 wx ∧ Hid ((S2 x5 y5).length = g ∧ T2.length + g ≤ k + 64 * q + 64))
            case atStart => exact ⟨S', T', hZ.mono (by omega), Lib.hid ⟨rfl, by have := hZ.c64 x5 y5; have := hZ.hT; omega⟩⟩
            case round =>
              clear hZ
              obtain ⟨S2, T2, hZ, hG⟩ := hrel
              go_wp2_with fail
              refine wp_region_held_drew (S := fun W' => W'.cell? ⟨g5, q * 2, none⟩ = some (.int .i64 x5) ∧ W'.cell? ⟨g5, q * 2 + 1, none⟩ = some (.int .i64 y5)) (by kernel_rfl) (hC _ (hZ.ag.trans (Ag.of_below _ (Below.refl _ _).drew))) (fun hS => ?_)
              refine wpAnyH_take (i := 0) (v := ?_) rfl (by kernel_rfl) (by kernel_rfl) (by kernel_rfl) (fun _ _ _ h => h) (Or.inl ⟨by rfl, ?_⟩) hS ?_
              rotate_left 1
              · intro w' hSw
                go_simp <;> with_reducible rfl
              try simp only [List.getElem_toArray, List.getElem_cons_zero, List.getElem_cons_succ, Act.put, List.setIfInBounds_toArray, List.set_cons_zero, List.set_cons_succ]
              refine wpAnyH_take (i := 1) (v := ?_) rfl (by kernel_rfl) (by kernel_rfl) (by kernel_rfl) (fun _ _ _ h => h) (Or.inl ⟨by rfl, ?_⟩) hS ?_
              rotate_left 1
              · intro w' hSw
                go_simp <;> with_reducible rfl
              try simp only [List.getElem_toArray, List.getElem_cons_zero, List.getElem_cons_succ, Act.put, List.setIfInBounds_toArray, List.set_cons_zero, List.set_cons_succ]
              refine wpAnyH_take (i := 2) (v := ?_) rfl (by kernel_rfl) (by kernel_rfl) (by kernel_rfl) (fun _ _ _ h => h) (Or.inl ⟨by rfl, ?_⟩) hS ?_
              rotate_left 1
              · intro w' hSw
                go_simp <;> with_reducible rfl
              try simp only [List.getElem_toArray, List.getElem_cons_zero, List.getElem_cons_succ, Act.put, List.setIfInBounds_toArray, List.set_cons_zero, List.set_cons_succ]
              refine wpAnyH_take (i := 3) (v := ?_) rfl (by kernel_rfl) (by kernel_rfl) (by kernel_rfl) (fun _ _ _ h => h) (Or.inl ⟨by rfl, ?_⟩) hS ?_
              rotate_left 1
              · intro w' hSw
                go_simp <;> with_reducible rfl
              try simp only [List.getElem_toArray, List.getElem_cons_zero, List.getElem_cons_succ, Act.put, List.setIfInBounds_toArray, List.set_cons_zero, List.set_cons_succ]
              refine wpAnyH_take (i := 4) (v := ?_) rfl (by kernel_rfl) (by kernel_rfl) (by kernel_rfl) (fun _ _ _ h => h) (Or.inl ⟨by rfl, ?_⟩) hS ?_
              rotate_left 1
              · intro w' hSw
                go_simp <;> with_reducible rfl
              try simp only [List.getElem_toArray, List.getElem_cons_zero, List.getElem_cons_succ, Act.put, List.setIfInBounds_toArray, List.set_cons_zero, List.set_cons_succ]
              refine wpAnyH_take (i := 5) (v := ?_) rfl (by kernel_rfl) (by kernel_rfl) (by kernel_rfl) (fun _ _ _ h => h) (Or.inl ⟨by rfl, ?_⟩) hS ?_
              rotate_left 1
              · intro w' hSw
                go_simp <;> with_reducible rfl
              try simp only [List.getElem_toArray, List.getElem_cons_zero, List.getElem_cons_succ, Act.put, List.setIfInBounds_toArray, List.set_cons_zero, List.set_cons_succ]
              refine wpAnyH_take (i := 6) (v := ?_) rfl (by kernel_rfl) (by kernel_rfl) (by kernel_rfl) (fun _ _ _ h => h) (Or.inl ⟨by rfl, ?_⟩) hS ?_
              rotate_left 1
              · intro w' hSw
                go_simp <;> with_reducible rfl
              try simp only [List.getElem_toArray, List.getElem_cons_zero, List.getElem_cons_succ, Act.put, List.setIfInBounds_toArray, List.set_cons_zero, List.set_cons_succ]
              refine wpAnyH_take (i := 7) (v := ?_) rfl (by kernel_rfl) (by kernel_rfl) (by kernel_rfl) (fun _ _ _ h => h) (Or.inl ⟨by rfl, ?_⟩) hS ?_
              rotate_left 1
              · intro w' hSw
                go_simp <;> with_reducible rfl
              try simp only [List.getElem_toArray, List.getElem_cons_zero, List.getElem_cons_succ, Act.put, List.setIfInBounds_toArray, List.set_cons_zero, List.set_cons_succ]
              refine wpAnyH_take (i := 8) (v := ?_) rfl (by kernel_rfl) (by kernel_rfl) (by kernel_rfl) (fun _ _ _ h => h) (Or.inl ⟨by rfl, ?_⟩) hS ?_
              rotate_left 1
              · intro w' hSw
                go_simp <;> with_reducible rfl
              try simp only [List.getElem_toArray, List.getElem_cons_zero, List.getElem_cons_succ, Act.put, List.setIfInBounds_toArray, List.set_cons_zero, List.set_cons_succ]
              refine wpAnyH_take (i := 9) (v := ?_) rfl (by kernel_rfl) (by kernel_rfl) (by kernel_rfl) (fun _ _ _ h => h) (Or.inl ⟨by rfl, ?_⟩) hS ?_
              rotate_left 1
              · intro w' hSw
                go_simp <;> with_reducible rfl
              try simp only [List.getElem_toArray, List.getElem_cons_zero, List.getElem_cons_succ, Act.put, List.setIfInBounds_toArray, List.set_cons_zero, List.set_cons_succ]
              refine wpAnyH_take (i := 10) (v := ?_) rfl (by kernel_rfl) (by kernel_rfl) (by kernel_rfl) (fun _ _ _ h => h) (Or.inl ⟨by rfl, ?_⟩) hS ?_
              rotate_left 1
              · intro w' hSw
                go_simp <;> with_reducible rfl
              try simp only [List.getElem_toArray, List.getElem_cons_zero, List.getElem_cons_succ, Act.put, List.setIfInBounds_toArray, List.set_cons_zero, List.set_cons_succ]
              refine wpAnyH_ready (rs := [11]) (by kernel_rfl) (by simp) (AllReadyH.cons rfl (fun K hK => ?_) AllReadyH.nil)
              go_simp
              (with_reducible refine (two_rwait (hZ.two.below (Below.refl _ _).drew) x5 y5).mono ?_)
              rintro _ _ ⟨rfl, rfl⟩
              go_simp
              refine hK _ _ hS (fun hS => ?_)
              clear hK K
              try simp only [List.getElem_toArray, List.getElem_cons_zero, List.getElem_cons_succ, Act.put, List.setIfInBounds_toArray, List.set_cons_zero, List.set_cons_succ]
              refine wpAnyH_take (i := 12) (v := ?_) rfl (by kernel_rfl) (by kernel_rfl) (by kernel_rfl) (fun _ _ _ h => h) (Or.inl ⟨by rfl, ?_⟩) hS ?_
              rotate_left 1
              · intro w' hSw
                go_simp <;> with_reducible rfl
              try simp only [List.getElem_toArray, List.getElem_cons_zero, List.getElem_cons_succ, Act.put, List.setIfInBounds_toArray, List.set_cons_zero, List.set_cons_succ]
              refine wpAnyH_done (by kernel_rfl) ?_ _
              by_cases hz : 0 < (S2 x5 y5).length
              · have e2 : decide ((0 : Int) < ((S2 x5 y5).length : Int)) = true := decide_eq_true (by omega)
                have e3 : 0 < (S2 x5 y5).length := hz
                go_wp2_with fail
                refine wp_region_held_drew (S := fun W' => W'.cell? ⟨g5, q * 2, none⟩ = some (.int .i64 x5) ∧ W'.cell? ⟨g5, q * 2 + 1, none⟩ = some (.int .i64 y5)) (by kernel_rfl) (hC _ (hZ.ag.trans (Ag.of_below _ (Below.refl _ _).drew.drew))) (fun hS => ?_)
                refine wpAnyH_take (i := 0) (v := ?_) rfl (by kernel_rfl) (by kernel_rfl) (by kernel_rfl) (fun _ _ _ h => h) (Or.inl ⟨by rfl, ?_⟩) hS ?_
                rotate_left 1
                · intro w' hSw
                  go_simp <;> with_reducible rfl
                try simp only [List.getElem_toArray, List.getElem_cons_zero, List.getElem_cons_succ, Act.put, List.setIfInBounds_toArray, List.set_cons_zero, List.set_cons_succ]
                refine wpAnyH_take (i := 1) (v := ?_) rfl (by kernel_rfl) (by kernel_rfl) (by kernel_rfl) (fun _ _ _ h => h) (Or.inl ⟨by rfl, ?_⟩) hS ?_
                rotate_left 1
                · intro w' hSw
                  go_simp <;> with_reducible rfl
                try simp only [List.getElem_toArray, List.getElem_cons_zero, List.getElem_cons_succ, Act.put, List.setIfInBounds_toArray, List.set_cons_zero, List.set_cons_succ]
                refine wpAnyH_take (i := 2) (v := ?_) rfl (by kernel_rfl) (by kernel_rfl) (by kernel_rfl) (fun _ _ _ h => h) (Or.inl ⟨by rfl, ?_⟩) hS ?_
                rotate_left 1
                · intro w' hSw
                  go_simp <;> with_reducible rfl
                try simp only [List.getElem_toArray, List.getElem_cons_zero, List.getElem_cons_succ, Act.put, List.setIfInBounds_toArray, List.set_cons_zero, List.set_cons_succ]
                refine wpAnyH_take (i := 3) (v := ?_) rfl (by kernel_rfl) (by kernel_rfl) (by kernel_rfl) (fun _ _ _ h => h) (Or.inl ⟨by rfl, ?_⟩) hS ?_
                rotate_left 1
                · intro w' hSw
                  go_simp <;> with_reducible rfl
                try simp only [List.getElem_toArray, List.getElem_cons_zero, List.getElem_cons_succ, Act.put, List.setIfInBounds_toArray, List.set_cons_zero, List.set_cons_succ]
                refine wpAnyH_take (i := 4) (v := ?_) rfl (by kernel_rfl) (by kernel_rfl) (by kernel_rfl) (fun _ _ _ h => h) (Or.inl ⟨by rfl, ?_⟩) hS ?_
                rotate_left 1
                · intro w' hSw
                  go_simp <;> with_reducible rfl
                try simp only [List.getElem_toArray, List.getElem_cons_zero, List.getElem_cons_succ, Act.put, List.setIfInBounds_toArray, List.set_cons_zero, List.set_cons_succ]
                refine wpAnyH_take (i := 5) (v := ?_) rfl (by kernel_rfl) (by kernel_rfl) (by kernel_rfl) (fun _ _ _ h => h) (Or.inl ⟨by rfl, ?_⟩) hS ?_
                rotate_left 1
                · intro w' hSw
                  go_simp <;> with_reducible rfl
                try simp only [List.getElem_toArray, List.getElem_cons_zero, List.getElem_cons_succ, Act.put, List.setIfInBounds_toArray, List.set_cons_zero, List.set_cons_succ]
                refine wpAnyH_take (i := 6) (v := ?_) rfl (by kernel_rfl) (by kernel_rfl) (by kernel_rfl) (fun _ _ _ h => h) (Or.inl ⟨by rfl, ?_⟩) hS ?_
                rotate_left 1
                · intro w' hSw
                  go_simp <;> with_reducible rfl
                try simp only [List.getElem_toArray, List.getElem_cons_zero, List.getElem_cons_succ, Act.put, List.setIfInBounds_toArray, List.set_cons_zero, List.set_cons_succ]
                refine wpAnyH_take (i := 7) (v := ?_) rfl (by kernel_rfl) (by kernel_rfl) (by kernel_rfl) (fun _ _ _ h => h) (Or.inl ⟨by rfl, ?_⟩) hS ?_
                rotate_left 1
                · intro w' hSw
                  go_simp <;> with_reducible rfl
                try simp only [List.getElem_toArray, List.getElem_cons_zero, List.getElem_cons_succ, Act.put, List.setIfInBounds_toArray, List.set_cons_zero, List.set_cons_succ]
                refine wpAnyH_take (i := 8) (v := ?_) rfl (by kernel_rfl) (by kernel_rfl) (by kernel_rfl) (fun _ _ _ h => h) (Or.inl ⟨by rfl, ?_⟩) hS ?_
                rotate_left 1
                · intro w' hSw
                  go_simp <;> with_reducible rfl
                try simp only [List.getElem_toArray, List.getElem_cons_zero, List.getElem_cons_succ, Act.put, List.setIfInBounds_toArray, List.set_cons_zero, List.set_cons_succ]
                refine wpAnyH_take (i := 9) (v := ?_) rfl (by kernel_rfl) (by kernel_rfl) (by kernel_rfl) (fun _ _ _ h => h) (Or.inl ⟨by rfl, ?_⟩) hS ?_
                rotate_left 1
                · intro w' hSw
                  go_simp <;> with_reducible rfl
                try simp only [List.getElem_toArray, List.getElem_cons_zero, List.getElem_cons_succ, Act.put, List.setIfInBounds_toArray, List.set_cons_zero, List.set_cons_succ]
                refine wpAnyH_take (i := 10) (v := ?_) rfl (by kernel_rfl) (by kernel_rfl) (by kernel_rfl) (fun _ _ _ h => h) (Or.inl ⟨by rfl, ?_⟩) hS ?_
                rotate_left 1
                · intro w' hSw
                  go_simp <;> with_reducible rfl
                try simp only [List.getElem_toArray, List.getElem_cons_zero, List.getElem_cons_succ, Act.put, List.setIfInBounds_toArray, List.set_cons_zero, List.set_cons_succ]
                refine wpAnyH_take (i := 11) (v := ?_) rfl (by kernel_rfl) (by kernel_rfl) (by kernel_rfl) (fun _ _ _ h => h) (Or.inl ⟨by rfl, ?_⟩) hS ?_
                rotate_left 1
                · intro w' hSw
                  go_simp <;> with_reducible rfl
                try simp only [List.getElem_toArray, List.getElem_cons_zero, List.getElem_cons_succ, Act.put, List.setIfInBounds_toArray, List.set_cons_zero, List.set_cons_succ]
                refine wpAnyH_take (i := 12) (v := ?_) rfl (by kernel_rfl) (by kernel_rfl) (by kernel_rfl) (fun _ _ _ h => h) (Or.inl ⟨by rfl, ?_⟩) hS ?_
                rotate_left 1
                · intro w' hSw
                  go_simp <;> with_reducible rfl
                try simp only [List.getElem_toArray, List.getElem_cons_zero, List.getElem_cons_succ, Act.put, List.setIfInBounds_toArray, List.set_cons_zero, List.set_cons_succ]
                refine wpAnyH_ready (rs := [13]) (by kernel_rfl) (by simp) (AllReadyH.cons rfl (fun K hK => ?_) AllReadyH.nil)
                go_simp
                have hZd := hZ.below (Below.refl _ _).drew.drew
                have hst := step_take (d := ⟨3, x5, y5, 0, []⟩) (A := none) (c := 0) (show pickI 3 7 = 3 by decide) hZd.two ⟨⟨fun _ => False, fun b q => q.elim, Rd.none_ _ _ _ _ (fun _ => rfl)⟩, by simp, ix, iy, (show I64 0 by unfold I64; omega)⟩ (by have := hZ.hT; omega) (hZd.two.tkv _ _ _)
                simp only [List.length_nil] at hst
                (with_reducible refine hst.mono ?_)
                rintro _ w6 ⟨rfl, ⟨p, hp, q1⟩, q2⟩
                obtain ⟨g6, hg6⟩ : ∃ g6, (S2 x5 y5).length = g6 + 1 := ⟨(S2 x5 y5).length - 1, by omega⟩
                have hG3 : Hid ((tkS S2 x5 y5 0 x5 y5).length = g6 ∧ (T2 ++ [p]).length + g6 ≤ k + 64 * q + 64) := Lib.hid ⟨tk0_len hg6, by have := hG.out; simp; omega⟩
                have hZ3 : LiZ (fun j => j < w.heap.size ∨ (wo.heap.size ≤ j ∧ j < w5.heap.size)) N R X (k + 64 * q + 64) (tkS S2 x5 y5 0) (T2 ++ [p]) m w5 w6 := ⟨q1, c64_tk hZ.c64 _ _ _, by have := hG3.out; omega, hZ.lt.snoc (by rw [hp]; exact hZd.two.tkv _ _ _), hZd.ag.trans q2⟩
                have hgg : g6 < gk := by have := hG.out; omega
                clear q1 q2 hp hst hG hZ hZd hg6 e2 e3 hz
                go_simp
                refine hK _ _ (hC _ hZ3.ag) (fun hS => ?_)
                clear hK K
                try simp only [List.getElem_toArray, List.getElem_cons_zero, List.getElem_cons_succ, Act.put, List.setIfInBounds_toArray, List.set_cons_zero, List.set_cons_succ]
                refine wpAnyH_take (i := 14) (v := ?_) rfl (by kernel_rfl) (by kernel_rfl) (by kernel_rfl) (fun _ _ _ h => h) (Or.inl ⟨by rfl, ?_⟩) hS ?_
                rotate_left 1
                · intro w' hSw
                  go_simp <;> with_reducible rfl
                try simp only [List.getElem_toArray, List.getElem_cons_zero, List.getElem_cons_succ, Act.put, List.setIfInBounds_toArray, List.set_cons_zero, List.set_cons_succ]
                refine wpAnyH_done (by kernel_rfl) ?_ _
                go_wp2_with fail
                go_roundg g6
                case measure => exact hgg
                case rel => exact ⟨_, _, hZ3, hG3⟩
              · have e2 : decide ((0 : Int) < ((S2 x5 y5).length : Int)) = false := decide_eq_false (by omega)
                have e3 : ¬ 0 < (S2 x5 y5).length := hz
                go_wp2_with fail
                go_roundw
                case rel =>
                  refine ⟨q + 1, S2, T2, by omega, by go_num, hZ.two.below (Below.refl _ _).drew, hZ.c64, by have := hG.out; omega, hZ.lt, hZ.ag.trans (Ag.of_below _ (Below.refl _ _).drew)⟩
                case measure => simp [intOf]; omega
          · have e1 : decide ((q : Int) < (L5.length : Int)) = false := decide_eq_false (by omega)
            go_wp2_with fail
            (with_reducible refine (two_links hZ.two).mono ?_)
            rintro _ w6 ⟨A8, c8, L8, rfl, l8⟩
            have own8 := l8.2.2.1
            have hb8 := l8.2.2.2
            have hT8 : T'.length ≤ 1000000 := by have := hZ.hT; omega
            have lt8 := hZ.lt
            have t8 : Two (fun j => j < w.heap.size ∨ (wr.heap.size ≤ j ∧ j < w6.heap.size)) N R X S' S' T' T' m w6 := hZ.two.guard hb8 (fun j q => q.imp .inl id)
            have hbr : Below w.heap.size w wr := hbel.trans ((hZ.ag.mono (fun _ _ q => .inl q)).bel hbel.size)
            have hb6 : Below w.heap.size w w6 := hbr.trans (hb8.mono hbr.size)
            have hs8 := owns_max own8
            have hmm8 := t8.mm
            have hlt8 : ∀ g, (Value.slice A8 L8.length c8).ownBlock = some g → wr.heap.size ≤ g ∧ g < w6.heap.size := fun g e => ⟨(owns_block own8 g e).1, owns_lt own8 g e⟩
            have hws := hbr.size
            clear l8 hZ hb8 hbel hbr
            go_wp2_with fail
            obtain ⟨n8, hn8⟩ : ∃ n8, n8 = wr.heap.size := ⟨_, rfl⟩
            rw [← hn8] at own8 t8 hlt8 hws
            clear hn8
            go_loopw [10] (fun i wx => ∃ (q : Nat) (xs : List Value), q ≤ L8.length ∧ i = .int .i64 q ∧ wx.ownsRow n8 38 2 (.slice A8 L8.length c8) L8.length xs ∧ Two (fun j => j < w.heap.size ∨ (n8 ≤ j ∧ j < w6.heap.size)) N R X S' S' T' T' m wx ∧ Below w.heap.size w wx) (fun i _ => L8.length - (intOf i).toNat)
            case atStart => exact ⟨0, _, Nat.zero_le _, rfl, own8, t8, hb6⟩
            case round =>
              clear own8 t8 hb6
              obtain ⟨q, xs, hq, rfl, own, t9, hb9⟩ := hrel
              by_cases hql : q < L8.length
              · have f1 : decide ((q : Int) < (L8.length : Int)) = true := decide_eq_true (by omega)
                obtain ⟨n1, n2⟩ := owns_none own
                cases A8 with
                | none => exact absurd (n1 rfl).1 (by omega)
                | some ag =>
                  obtain ⟨e0, _⟩ := n2 ag rfl
                  clear n1 n2
                  obtain ⟨g8, go8, gf8⟩ := ag
                  injection e0 with _ e6 e7
                  subst e6 e7
                  obtain ⟨hg1, hg2⟩ := hlt8 g8 rfl
                  have hxl := own.1
                  obtain ⟨⟨u0, k0⟩, k1⟩ := owns_cell own (j := q * 2) (by omega)
                  obtain ⟨o1, gr1⟩ := own.stored (q * 2) (.int .i64 0)
                  obtain ⟨⟨u1, k2⟩, k3⟩ := owns_cell o1 (j := q * 2 + 1) (by simp; omega)
                  obtain ⟨o2, gr2⟩ := o1.stored (q * 2 + 1) (.int .i64 0)
                  have HO := Lib.hid (And.intro o2 (And.intro gr1 gr2))
                  clear o1 gr1 o2 gr2 own
                  go_wp2_with fail
                  generalize hw9 : (wr.setCell ⟨g8, q * 2, none⟩ (.int .i64 0)).setCell ⟨g8, q * 2 + 1, none⟩ (.int .i64 0) = w9 at *
                  obtain ⟨o2, gr1, gr2⟩ := HO.out
                  have hsz : wr.heap.size ≤ w9.heap.size := Nat.le_trans gr1.size gr2.size
                  have far : ∀ j, j < wr.heap.size → j ≠ g8 → w9.heap[j]? = wr.heap[j]? := fun j j1 j2 => (gr2.block j (Nat.lt_of_lt_of_le j1 gr1.size) (fun e => j2 (Option.some.inj e))).trans (gr1.block j j1 (fun e => j2 (Option.some.inj e)))
                  have t10 := t9.other hsz (fun j j1 j2 => far j j1 (fun e => j2 (.inr ⟨by omega, by omega⟩)))
                  have hb10 : Below w.heap.size w w9 := hb9.trans ⟨gr2.os.trans gr1.os, gr2.tape.trans gr1.tape, gr2.output.trans gr1.output, hsz, fun j hj => far j (Nat.lt_of_lt_of_le hj hb9.size) (by omega)⟩
                  clear gr1 gr2 far hw9
                  go_roundw
                  case rel => exact ⟨q + 1, _, by omega, by go_num, o2, t10, hb10⟩
                  case measure => simp [intOf]; omega
              · have f1 : decide ((q : Int) < (L8.length : Int)) = false := decide_eq_false (by omega)
                clear own
                go_wp2_with fail
                (with_reducible refine (two_links t9).mono ?_)
                rintro _ w10 ⟨A9, c9, L9, rfl, l9⟩
                have rd9 := lk_rdl l9
                have hl9 := Lib.hid l9.1
                have hb10 := hb9.trans (l9.2.2.2.mono hb9.size)
                have t10 := t9.below l9.2.2.2
                clear l9 t9 hb9
                go_wp2_with fail
                (with_reducible refine (two_rlinks t10).mono ?_)
                rintro _ w11 ⟨A10, c10, L10, rfl, l10, hl10⟩
                obtain rfl : L10 = L9 := OnL.one l10.1 hl9.out
                have rd10 := lk_rdl l10
                have rd9' := rd9.below l10.2.2.2
                have hb11 := hb10.trans (l10.2.2.2.mono hb10.size)
                have t11 := t10.below l10.2.2.2
                clear l10 t10 hb10 rd9 hl9
                have heq := links_any A9 A10 c9 c10 L10 L10 w11 rd9' rd10 (by omega) (by omega)
                rw [decide_eq_true (rfl : L10 = L10)] at heq
                go_wp2_with fail
                (with_reducible refine heq.mono ?_)
                rintro _ w12 ⟨rfl, kq, rfl⟩
                clear heq
                have t12 := t11.below (below_drewN w11 kq)
                have hb12 : Below w.heap.size w (w11.drewN kq) := hb11.trans ((below_drewN w11 kq).mono hb11.size)
                generalize w11.drewN kq = w12 at *
                clear t11 hb11
                obtain ⟨At, ct, Sb, cX, hF, hO, hSb⟩ := t12.apart
                have hap := ApartBytes_any Sb (T'.map tFs) (tC T') At ct w12 hF hO (fun b q => (hSb b q).1) (by simp; omega) (fun x hx => by obtain ⟨p, hp, rfl⟩ := List.mem_map.1 hx; exact lt8 p hp)
                rw [List.length_map] at hap
                clear hF hO
                go_wp2_with fail
                (with_reducible refine hap.mono ?_)
                rintro _ w13 ⟨rfl, ha13⟩
                have hb13 : Below w.heap.size w w13 := hb12.trans ((ha13.mono (K' := fun j => j < w.heap.size) (fun j _ q q' => (hSb j q').2 (.inl q))).bel hb12.size)
                clear hap ha13 t12 cX hb12
                go_wp2_with fail
                refine (awake_any w13).mono ?_
                rintro _ w14 ⟨rfl, hb14⟩
                go_wp2_with fail
                go_ret
                exact ⟨rfl, hb13.trans (hb14.mono hb13.size)⟩
      · have d1 : decide ((k : Int) < (ds.length : Int)) = false := decide_eq_false (by omega)
        go_wp2_with fail
        (with_reducible refine (two_rlinks hI.two).mono ?_)
        rintro _ w5 ⟨A5, c5, L5, rfl, l5, hl5⟩
        have rd5 := lk_rdl l5
        have hb5 := l5.2.2.2
        have hmm := hI.hm
        have hI5 : LiZ (fun j => j < w.heap.size ∨ (wr.heap.size ≤ j ∧ j < w5.heap.size)) N R X (k + 64 * 0) S T m w5 w5 := ⟨hI.two.guard hb5 (fun j q => q), hI.c64, hI.hT, hI.lt, Ag.refl _ _⟩
        have hbel := hI.bel.trans (hb5.mono hI.bel.size)
        have hL5 : L5.length ≤ 7000 := by omega
        clear l5 hl5 hI hb5
        go_wp2_with fail
        obtain ⟨wo, hwo⟩ : ∃ wo : World, Hid (wo = wr) := ⟨_, Lib.hid rfl⟩
        rw [← hwo.out] at rd5 hI5
        go_loopw [8] (fun i wx => ∃ (q : Nat) (S' : Sg) (T' : List PV), q ≤ L5.length ∧ i = .int .i64 q ∧ LiZ (fun j => j < w.heap.size ∨ (wo.heap.size ≤ j ∧ j < w5.heap.size)) N R X (k + 64 * q) S' T' m w5 wx) (fun i _ => L5.length - (intOf i).toNat)
        case atStart => exact ⟨0, S, T, Nat.zero_le _, rfl, hI5⟩
        case round =>
          clear hI5
          obtain ⟨q, S', T', hq, rfl, hZ⟩ := hrel
          by_cases hlq : q < L5.length
          · have e1 : decide ((q : Int) < (L5.length : Int)) = true := decide_eq_true (by omega)
            obtain ⟨g5, x5, y5, rfl, hxy, ix, iy, a0, a1⟩ := rd5.at_ hlq
            have hg5 : wo.heap.size ≤ g5 ∧ g5 < w5.heap.size := by
              obtain ⟨g', e', hg', _⟩ := rd5.2 (by rintro rfl; simp at hlq)
              injection e' with e'
              injection e' with e'
              subst e'
              exact hg'
            have HXY := Lib.hid hxy
            clear hxy
            have hC : ∀ W', Ag (fun j => j < w.heap.size ∨ (wo.heap.size ≤ j ∧ j < w5.heap.size)) w5 W' → W'.cell? ⟨g5, q * 2, none⟩ = some (.int .i64 x5) ∧ W'.cell? ⟨g5, q * 2 + 1, none⟩ = some (.int .i64 y5) := fun W' hW' =>
              have hq' := hW'.block g5 hg5.2 (.inr hg5)
              ⟨(World.cell?_of_block hq').trans a0, (World.cell?_of_block hq').trans a1⟩
            clear a0 a1
            go_wp2_with fail
            go_loopg [82] (S' x5 y5).length (fun g _ wx => ∃ (S2 : Sg) (T2 : List PV), LiZ (fun j => j < w.heap.size ∨ (wo.heap.size ≤ j ∧ j < w5.heap.size)) N R X (k + 64 * q + 64) S2 T2 m w5 wx ∧ Hid ((S2 x5 y5).length = g ∧ T2.length + g ≤ k + 64 * q + 64))
            case atStart => exact ⟨S', T', hZ.mono (by omega), Lib.hid ⟨rfl, by have := hZ.c64 x5 y5; have := hZ.hT; omega⟩⟩
            case round =>
              clear hZ
              obtain ⟨S2, T2, hZ, hG⟩ := hrel
              go_wp2_with fail
              refine wp_region_held_drew (S := fun W' => W'.cell? ⟨g5, q * 2, none⟩ = some (.int .i64 x5) ∧ W'.cell? ⟨g5, q * 2 + 1, none⟩ = some (.int .i64 y5)) (by kernel_rfl) (hC _ (hZ.ag.trans (Ag.of_below _ (Below.refl _ _).drew))) (fun hS => ?_)
              refine wpAnyH_take (i := 0) (v := ?_) rfl (by kernel_rfl) (by kernel_rfl) (by kernel_rfl) (fun _ _ _ h => h) (Or.inl ⟨by rfl, ?_⟩) hS ?_
              rotate_left 1
              · intro w' hSw
                go_simp <;> with_reducible rfl
              try simp only [List.getElem_toArray, List.getElem_cons_zero, List.getElem_cons_succ, Act.put, List.setIfInBounds_toArray, List.set_cons_zero, List.set_cons_succ]
              refine wpAnyH_take (i := 1) (v := ?_) rfl (by kernel_rfl) (by kernel_rfl) (by kernel_rfl) (fun _ _ _ h => h) (Or.inl ⟨by rfl, ?_⟩) hS ?_
              rotate_left 1
              · intro w' hSw
                go_simp <;> with_reducible rfl
              try simp only [List.getElem_toArray, List.getElem_cons_zero, List.getElem_cons_succ, Act.put, List.setIfInBounds_toArray, List.set_cons_zero, List.set_cons_succ]
              refine wpAnyH_take (i := 2) (v := ?_) rfl (by kernel_rfl) (by kernel_rfl) (by kernel_rfl) (fun _ _ _ h => h) (Or.inl ⟨by rfl, ?_⟩) hS ?_
              rotate_left 1
              · intro w' hSw
                go_simp <;> with_reducible rfl
              try simp only [List.getElem_toArray, List.getElem_cons_zero, List.getElem_cons_succ, Act.put, List.setIfInBounds_toArray, List.set_cons_zero, List.set_cons_succ]
              refine wpAnyH_take (i := 3) (v := ?_) rfl (by kernel_rfl) (by kernel_rfl) (by kernel_rfl) (fun _ _ _ h => h) (Or.inl ⟨by rfl, ?_⟩) hS ?_
              rotate_left 1
              · intro w' hSw
                go_simp <;> with_reducible rfl
              try simp only [List.getElem_toArray, List.getElem_cons_zero, List.getElem_cons_succ, Act.put, List.setIfInBounds_toArray, List.set_cons_zero, List.set_cons_succ]
              refine wpAnyH_take (i := 4) (v := ?_) rfl (by kernel_rfl) (by kernel_rfl) (by kernel_rfl) (fun _ _ _ h => h) (Or.inl ⟨by rfl, ?_⟩) hS ?_
              rotate_left 1
              · intro w' hSw
                go_simp <;> with_reducible rfl
              try simp only [List.getElem_toArray, List.getElem_cons_zero, List.getElem_cons_succ, Act.put, List.setIfInBounds_toArray, List.set_cons_zero, List.set_cons_succ]
              refine wpAnyH_take (i := 5) (v := ?_) rfl (by kernel_rfl) (by kernel_rfl) (by kernel_rfl) (fun _ _ _ h => h) (Or.inl ⟨by rfl, ?_⟩) hS ?_
              rotate_left 1
              · intro w' hSw
                go_simp <;> with_reducible rfl
              try simp only [List.getElem_toArray, List.getElem_cons_zero, List.getElem_cons_succ, Act.put, List.setIfInBounds_toArray, List.set_cons_zero, List.set_cons_succ]
              refine wpAnyH_take (i := 6) (v := ?_) rfl (by kernel_rfl) (by kernel_rfl) (by kernel_rfl) (fun _ _ _ h => h) (Or.inl ⟨by rfl, ?_⟩) hS ?_
              rotate_left 1
              · intro w' hSw
                go_simp <;> with_reducible rfl
              try simp only [List.getElem_toArray, List.getElem_cons_zero, List.getElem_cons_succ, Act.put, List.setIfInBounds_toArray, List.set_cons_zero, List.set_cons_succ]
              refine wpAnyH_take (i := 7) (v := ?_) rfl (by kernel_rfl) (by kernel_rfl) (by kernel_rfl) (fun _ _ _ h => h) (Or.inl ⟨by rfl, ?_⟩) hS ?_
              rotate_left 1
              · intro w' hSw
                go_simp <;> with_reducible rfl
              try simp only [List.getElem_toArray, List.getElem_cons_zero, List.getElem_cons_succ, Act.put, List.setIfInBounds_toArray, List.set_cons_zero, List.set_cons_succ]
              refine wpAnyH_take (i := 8) (v := ?_) rfl (by kernel_rfl) (by kernel_rfl) (by kernel_rfl) (fun _ _ _ h => h) (Or.inl ⟨by rfl, ?_⟩) hS ?_
              rotate_left 1
              · intro w' hSw
                go_simp <;> with_reducible rfl
              try simp only [List.getElem_toArray, List.getElem_cons_zero, List.getElem_cons_succ, Act.put, List.setIfInBounds_toArray, List.set_cons_zero, List.set_cons_succ]
              refine wpAnyH_take (i := 9) (v := ?_) rfl (by kernel_rfl) (by kernel_rfl) (by kernel_rfl) (fun _ _ _ h => h) (Or.inl ⟨by rfl, ?_⟩) hS ?_
              rotate_left 1
              · intro w' hSw
                go_simp <;> with_reducible rfl
              try simp only [List.getElem_toArray, List.getElem_cons_zero, List.getElem_cons_succ, Act.put, List.setIfInBounds_toArray, List.set_cons_zero, List.set_cons_succ]
              refine wpAnyH_take (i := 10) (v := ?_) rfl (by kernel_rfl) (by kernel_rfl) (by kernel_rfl) (fun _ _ _ h => h) (Or.inl ⟨by rfl, ?_⟩) hS ?_
              rotate_left 1
              · intro w' hSw
                go_simp <;> with_reducible rfl
              try simp only [List.getElem_toArray, List.getElem_cons_zero, List.getElem_cons_succ, Act.put, List.setIfInBounds_toArray, List.set_cons_zero, List.set_cons_succ]
              refine wpAnyH_ready (rs := [11]) (by kernel_rfl) (by simp) (AllReadyH.cons rfl (fun K hK => ?_) AllReadyH.nil)
              go_simp
              (with_reducible refine (two_rwait (hZ.two.below (Below.refl _ _).drew) x5 y5).mono ?_)
              rintro _ _ ⟨rfl, rfl⟩
              go_simp
              refine hK _ _ hS (fun hS => ?_)
              clear hK K
              try simp only [List.getElem_toArray, List.getElem_cons_zero, List.getElem_cons_succ, Act.put, List.setIfInBounds_toArray, List.set_cons_zero, List.set_cons_succ]
              refine wpAnyH_take (i := 12) (v := ?_) rfl (by kernel_rfl) (by kernel_rfl) (by kernel_rfl) (fun _ _ _ h => h) (Or.inl ⟨by rfl, ?_⟩) hS ?_
              rotate_left 1
              · intro w' hSw
                go_simp <;> with_reducible rfl
              try simp only [List.getElem_toArray, List.getElem_cons_zero, List.getElem_cons_succ, Act.put, List.setIfInBounds_toArray, List.set_cons_zero, List.set_cons_succ]
              refine wpAnyH_done (by kernel_rfl) ?_ _
              by_cases hz : 0 < (S2 x5 y5).length
              · have e2 : decide ((0 : Int) < ((S2 x5 y5).length : Int)) = true := decide_eq_true (by omega)
                have e3 : 0 < (S2 x5 y5).length := hz
                go_wp2_with fail
                refine wp_region_held_drew (S := fun W' => W'.cell? ⟨g5, q * 2, none⟩ = some (.int .i64 x5) ∧ W'.cell? ⟨g5, q * 2 + 1, none⟩ = some (.int .i64 y5)) (by kernel_rfl) (hC _ (hZ.ag.trans (Ag.of_below _ (Below.refl _ _).drew.drew))) (fun hS => ?_)
                refine wpAnyH_take (i := 0) (v := ?_) rfl (by kernel_rfl) (by kernel_rfl) (by kernel_rfl) (fun _ _ _ h => h) (Or.inl ⟨by rfl, ?_⟩) hS ?_
                rotate_left 1
                · intro w' hSw
                  go_simp <;> with_reducible rfl
                try simp only [List.getElem_toArray, List.getElem_cons_zero, List.getElem_cons_succ, Act.put, List.setIfInBounds_toArray, List.set_cons_zero, List.set_cons_succ]
                refine wpAnyH_take (i := 1) (v := ?_) rfl (by kernel_rfl) (by kernel_rfl) (by kernel_rfl) (fun _ _ _ h => h) (Or.inl ⟨by rfl, ?_⟩) hS ?_
                rotate_left 1
                · intro w' hSw
                  go_simp <;> with_reducible rfl
                try simp only [List.getElem_toArray, List.getElem_cons_zero, List.getElem_cons_succ, Act.put, List.setIfInBounds_toArray, List.set_cons_zero, List.set_cons_succ]
                refine wpAnyH_take (i := 2) (v := ?_) rfl (by kernel_rfl) (by kernel_rfl) (by kernel_rfl) (fun _ _ _ h => h) (Or.inl ⟨by rfl, ?_⟩) hS ?_
                rotate_left 1
                · intro w' hSw
                  go_simp <;> with_reducible rfl
                try simp only [List.getElem_toArray, List.getElem_cons_zero, List.getElem_cons_succ, Act.put, List.setIfInBounds_toArray, List.set_cons_zero, List.set_cons_succ]
                refine wpAnyH_take (i := 3) (v := ?_) rfl (by kernel_rfl) (by kernel_rfl) (by kernel_rfl) (fun _ _ _ h => h) (Or.inl ⟨by rfl, ?_⟩) hS ?_
                rotate_left 1
                · intro w' hSw
                  go_simp <;> with_reducible rfl
                try simp only [List.getElem_toArray, List.getElem_cons_zero, List.getElem_cons_succ, Act.put, List.setIfInBounds_toArray, List.set_cons_zero, List.set_cons_succ]
                refine wpAnyH_take (i := 4) (v := ?_) rfl (by kernel_rfl) (by kernel_rfl) (by kernel_rfl) (fun _ _ _ h => h) (Or.inl ⟨by rfl, ?_⟩) hS ?_
                rotate_left 1
                · intro w' hSw
                  go_simp <;> with_reducible rfl
                try simp only [List.getElem_toArray, List.getElem_cons_zero, List.getElem_cons_succ, Act.put, List.setIfInBounds_toArray, List.set_cons_zero, List.set_cons_succ]
                refine wpAnyH_take (i := 5) (v := ?_) rfl (by kernel_rfl) (by kernel_rfl) (by kernel_rfl) (fun _ _ _ h => h) (Or.inl ⟨by rfl, ?_⟩) hS ?_
                rotate_left 1
                · intro w' hSw
                  go_simp <;> with_reducible rfl
                try simp only [List.getElem_toArray, List.getElem_cons_zero, List.getElem_cons_succ, Act.put, List.setIfInBounds_toArray, List.set_cons_zero, List.set_cons_succ]
                refine wpAnyH_take (i := 6) (v := ?_) rfl (by kernel_rfl) (by kernel_rfl) (by kernel_rfl) (fun _ _ _ h => h) (Or.inl ⟨by rfl, ?_⟩) hS ?_
                rotate_left 1
                · intro w' hSw
                  go_simp <;> with_reducible rfl
                try simp only [List.getElem_toArray, List.getElem_cons_zero, List.getElem_cons_succ, Act.put, List.setIfInBounds_toArray, List.set_cons_zero, List.set_cons_succ]
                refine wpAnyH_take (i := 7) (v := ?_) rfl (by kernel_rfl) (by kernel_rfl) (by kernel_rfl) (fun _ _ _ h => h) (Or.inl ⟨by rfl, ?_⟩) hS ?_
                rotate_left 1
                · intro w' hSw
                  go_simp <;> with_reducible rfl
                try simp only [List.getElem_toArray, List.getElem_cons_zero, List.getElem_cons_succ, Act.put, List.setIfInBounds_toArray, List.set_cons_zero, List.set_cons_succ]
                refine wpAnyH_take (i := 8) (v := ?_) rfl (by kernel_rfl) (by kernel_rfl) (by kernel_rfl) (fun _ _ _ h => h) (Or.inl ⟨by rfl, ?_⟩) hS ?_
                rotate_left 1
                · intro w' hSw
                  go_simp <;> with_reducible rfl
                try simp only [List.getElem_toArray, List.getElem_cons_zero, List.getElem_cons_succ, Act.put, List.setIfInBounds_toArray, List.set_cons_zero, List.set_cons_succ]
                refine wpAnyH_take (i := 9) (v := ?_) rfl (by kernel_rfl) (by kernel_rfl) (by kernel_rfl) (fun _ _ _ h => h) (Or.inl ⟨by rfl, ?_⟩) hS ?_
                rotate_left 1
                · intro w' hSw
                  go_simp <;> with_reducible rfl
                try simp only [List.getElem_toArray, List.getElem_cons_zero, List.getElem_cons_succ, Act.put, List.setIfInBounds_toArray, List.set_cons_zero, List.set_cons_succ]
                refine wpAnyH_take (i := 10) (v := ?_) rfl (by kernel_rfl) (by kernel_rfl) (by kernel_rfl) (fun _ _ _ h => h) (Or.inl ⟨by rfl, ?_⟩) hS ?_
                rotate_left 1
                · intro w' hSw
                  go_simp <;> with_reducible rfl
                try simp only [List.getElem_toArray, List.getElem_cons_zero, List.getElem_cons_succ, Act.put, List.setIfInBounds_toArray, List.set_cons_zero, List.set_cons_succ]
                refine wpAnyH_take (i := 11) (v := ?_) rfl (by kernel_rfl) (by kernel_rfl) (by kernel_rfl) (fun _ _ _ h => h) (Or.inl ⟨by rfl, ?_⟩) hS ?_
                rotate_left 1
                · intro w' hSw
                  go_simp <;> with_reducible rfl
                try simp only [List.getElem_toArray, List.getElem_cons_zero, List.getElem_cons_succ, Act.put, List.setIfInBounds_toArray, List.set_cons_zero, List.set_cons_succ]
                refine wpAnyH_take (i := 12) (v := ?_) rfl (by kernel_rfl) (by kernel_rfl) (by kernel_rfl) (fun _ _ _ h => h) (Or.inl ⟨by rfl, ?_⟩) hS ?_
                rotate_left 1
                · intro w' hSw
                  go_simp <;> with_reducible rfl
                try simp only [List.getElem_toArray, List.getElem_cons_zero, List.getElem_cons_succ, Act.put, List.setIfInBounds_toArray, List.set_cons_zero, List.set_cons_succ]
                refine wpAnyH_ready (rs := [13]) (by kernel_rfl) (by simp) (AllReadyH.cons rfl (fun K hK => ?_) AllReadyH.nil)
                go_simp
                have hZd := hZ.below (Below.refl _ _).drew.drew
                have hst := step_take (d := ⟨3, x5, y5, 0, []⟩) (A := none) (c := 0) (show pickI 3 7 = 3 by decide) hZd.two ⟨⟨fun _ => False, fun b q => q.elim, Rd.none_ _ _ _ _ (fun _ => rfl)⟩, by simp, ix, iy, (show I64 0 by unfold I64; omega)⟩ (by have := hZ.hT; omega) (hZd.two.tkv _ _ _)
                simp only [List.length_nil] at hst
                (with_reducible refine hst.mono ?_)
                rintro _ w6 ⟨rfl, ⟨p, hp, q1⟩, q2⟩
                obtain ⟨g6, hg6⟩ : ∃ g6, (S2 x5 y5).length = g6 + 1 := ⟨(S2 x5 y5).length - 1, by omega⟩
                have hG3 : Hid ((tkS S2 x5 y5 0 x5 y5).length = g6 ∧ (T2 ++ [p]).length + g6 ≤ k + 64 * q + 64) := Lib.hid ⟨tk0_len hg6, by have := hG.out; simp; omega⟩
                have hZ3 : LiZ (fun j => j < w.heap.size ∨ (wo.heap.size ≤ j ∧ j < w5.heap.size)) N R X (k + 64 * q + 64) (tkS S2 x5 y5 0) (T2 ++ [p]) m w5 w6 := ⟨q1, c64_tk hZ.c64 _ _ _, by have := hG3.out; omega, hZ.lt.snoc (by rw [hp]; exact hZd.two.tkv _ _ _), hZd.ag.trans q2⟩
                have hgg : g6 < gk := by have := hG.out; omega
                clear q1 q2 hp hst hG hZ hZd hg6 e2 e3 hz
                go_simp
                refine hK _ _ (hC _ hZ3.ag) (fun hS => ?_)
                clear hK K
                try simp only [List.getElem_toArray, List.getElem_cons_zero, List.getElem_cons_succ, Act.put, List.setIfInBounds_toArray, List.set_cons_zero, List.set_cons_succ]
                refine wpAnyH_take (i := 14) (v := ?_) rfl (by kernel_rfl) (by kernel_rfl) (by kernel_rfl) (fun _ _ _ h => h) (Or.inl ⟨by rfl, ?_⟩) hS ?_
                rotate_left 1
                · intro w' hSw
                  go_simp <;> with_reducible rfl
                try simp only [List.getElem_toArray, List.getElem_cons_zero, List.getElem_cons_succ, Act.put, List.setIfInBounds_toArray, List.set_cons_zero, List.set_cons_succ]
                refine wpAnyH_done (by kernel_rfl) ?_ _
                go_wp2_with fail
                go_roundg g6
                case measure => exact hgg
                case rel => exact ⟨_, _, hZ3, hG3⟩
              · have e2 : decide ((0 : Int) < ((S2 x5 y5).length : Int)) = false := decide_eq_false (by omega)
                have e3 : ¬ 0 < (S2 x5 y5).length := hz
                go_wp2_with fail
                go_roundw
                case rel =>
                  refine ⟨q + 1, S2, T2, by omega, by go_num, hZ.two.below (Below.refl _ _).drew, hZ.c64, by have := hG.out; omega, hZ.lt, hZ.ag.trans (Ag.of_below _ (Below.refl _ _).drew)⟩
                case measure => simp [intOf]; omega
          · have e1 : decide ((q : Int) < (L5.length : Int)) = false := decide_eq_false (by omega)
            go_wp2_with fail
            (with_reducible refine (two_links hZ.two).mono ?_)
            rintro _ w6 ⟨A8, c8, L8, rfl, l8⟩
            have own8 := l8.2.2.1
            have hb8 := l8.2.2.2
            have hT8 : T'.length ≤ 1000000 := by have := hZ.hT; omega
            have lt8 := hZ.lt
            have t8 : Two (fun j => j < w.heap.size ∨ (wr.heap.size ≤ j ∧ j < w6.heap.size)) N R X S' S' T' T' m w6 := hZ.two.guard hb8 (fun j q => q.imp .inl id)
            have hbr : Below w.heap.size w wr := hbel.trans ((hZ.ag.mono (fun _ _ q => .inl q)).bel hbel.size)
            have hb6 : Below w.heap.size w w6 := hbr.trans (hb8.mono hbr.size)
            have hs8 := owns_max own8
            have hmm8 := t8.mm
            have hlt8 : ∀ g, (Value.slice A8 L8.length c8).ownBlock = some g → wr.heap.size ≤ g ∧ g < w6.heap.size := fun g e => ⟨(owns_block own8 g e).1, owns_lt own8 g e⟩
            have hws := hbr.size
            clear l8 hZ hb8 hbel hbr
            go_wp2_with fail
            obtain ⟨n8, hn8⟩ : ∃ n8, n8 = wr.heap.size := ⟨_, rfl⟩
            rw [← hn8] at own8 t8 hlt8 hws
            clear hn8
            go_loopw [10] (fun i wx => ∃ (q : Nat) (xs : List Value), q ≤ L8.length ∧ i = .int .i64 q ∧ wx.ownsRow n8 38 2 (.slice A8 L8.length c8) L8.length xs ∧ Two (fun j => j < w.heap.size ∨ (n8 ≤ j ∧ j < w6.heap.size)) N R X S' S' T' T' m wx ∧ Below w.heap.size w wx) (fun i _ => L8.length - (intOf i).toNat)
            case atStart => exact ⟨0, _, Nat.zero_le _, rfl, own8, t8, hb6⟩
            case round =>
              clear own8 t8 hb6
              obtain ⟨q, xs, hq, rfl, own, t9, hb9⟩ := hrel
              by_cases hql : q < L8.length
              · have f1 : decide ((q : Int) < (L8.length : Int)) = true := decide_eq_true (by omega)
                obtain ⟨n1, n2⟩ := owns_none own
                cases A8 with
                | none => exact absurd (n1 rfl).1 (by omega)
                | some ag =>
                  obtain ⟨e0, _⟩ := n2 ag rfl
                  clear n1 n2
                  obtain ⟨g8, go8, gf8⟩ := ag
                  injection e0 with _ e6 e7
                  subst e6 e7
                  obtain ⟨hg1, hg2⟩ := hlt8 g8 rfl
                  have hxl := own.1
                  obtain ⟨⟨u0, k0⟩, k1⟩ := owns_cell own (j := q * 2) (by omega)
                  obtain ⟨o1, gr1⟩ := own.stored (q * 2) (.int .i64 0)
                  obtain ⟨⟨u1, k2⟩, k3⟩ := owns_cell o1 (j := q * 2 + 1) (by simp; omega)
                  obtain ⟨o2, gr2⟩ := o1.stored (q * 2 + 1) (.int .i64 0)
                  have HO := Lib.hid (And.intro o2 (And.intro gr1 gr2))
                  clear o1 gr1 o2 gr2 own
                  go_wp2_with fail
                  generalize hw9 : (wr.setCell ⟨g8, q * 2, none⟩ (.int .i64 0)).setCell ⟨g8, q * 2 + 1, none⟩ (.int .i64 0) = w9 at *
                  obtain ⟨o2, gr1, gr2⟩ := HO.out
                  have hsz : wr.heap.size ≤ w9.heap.size := Nat.le_trans gr1.size gr2.size
                  have far : ∀ j, j < wr.heap.size → j ≠ g8 → w9.heap[j]? = wr.heap[j]? := fun j j1 j2 => (gr2.block j (Nat.lt_of_lt_of_le j1 gr1.size) (fun e => j2 (Option.some.inj e))).trans (gr1.block j j1 (fun e => j2 (Option.some.inj e)))
                  have t10 := t9.other hsz (fun j j1 j2 => far j j1 (fun e => j2 (.inr ⟨by omega, by omega⟩)))
                  have hb10 : Below w.heap.size w w9 := hb9.trans ⟨gr2.os.trans gr1.os, gr2.tape.trans gr1.tape, gr2.output.trans gr1.output, hsz, fun j hj => far j (Nat.lt_of_lt_of_le hj hb9.size) (by omega)⟩
                  clear gr1 gr2 far hw9
                  go_roundw
                  case rel => exact ⟨q + 1, _, by omega, by go_num, o2, t10, hb10⟩
                  case measure => simp [intOf]; omega
              · have f1 : decide ((q : Int) < (L8.length : Int)) = false := decide_eq_false (by omega)
                clear own
                go_wp2_with fail
                (with_reducible refine (two_links t9).mono ?_)
                rintro _ w10 ⟨A9, c9, L9, rfl, l9⟩
                have rd9 := lk_rdl l9
                have hl9 := Lib.hid l9.1
                have hb10 := hb9.trans (l9.2.2.2.mono hb9.size)
                have t10 := t9.below l9.2.2.2
                clear l9 t9 hb9
                go_wp2_with fail
                (with_reducible refine (two_rlinks t10).mono ?_)
                rintro _ w11 ⟨A10, c10, L10, rfl, l10, hl10⟩
                obtain rfl : L10 = L9 := OnL.one l10.1 hl9.out
                have rd10 := lk_rdl l10
                have rd9' := rd9.below l10.2.2.2
                have hb11 := hb10.trans (l10.2.2.2.mono hb10.size)
                have t11 := t10.below l10.2.2.2
                clear l10 t10 hb10 rd9 hl9
                have heq := links_any A9 A10 c9 c10 L10 L10 w11 rd9' rd10 (by omega) (by omega)
                rw [decide_eq_true (rfl : L10 = L10)] at heq
                go_wp2_with fail
                (with_reducible refine heq.mono ?_)
                rintro _ w12 ⟨rfl, kq, rfl⟩
                clear heq
                have t12 := t11.below (below_drewN w11 kq)
                have hb12 : Below w.heap.size w (w11.drewN kq) := hb11.trans ((below_drewN w11 kq).mono hb11.size)
                generalize w11.drewN kq = w12 at *
                clear t11 hb11
                obtain ⟨At, ct, Sb, cX, hF, hO, hSb⟩ := t12.apart
                have hap := ApartBytes_any Sb (T'.map tFs) (tC T') At ct w12 hF hO (fun b q => (hSb b q).1) (by simp; omega) (fun x hx => by obtain ⟨p, hp, rfl⟩ := List.mem_map.1 hx; exact lt8 p hp)
                rw [List.length_map] at hap
                clear hF hO
                go_wp2_with fail
                (with_reducible refine hap.mono ?_)
                rintro _ w13 ⟨rfl, ha13⟩
                have hb13 : Below w.heap.size w w13 := hb12.trans ((ha13.mono (K' := fun j => j < w.heap.size) (fun j _ q q' => (hSb j q').2 (.inl q))).bel hb12.size)
                clear hap ha13 t12 cX hb12
                go_wp2_with fail
                refine (awake_any w13).mono ?_
                rintro _ w14 ⟨rfl, hb14⟩
                go_wp2_with fail
                go_ret
                exact ⟨rfl, hb13.trans (hb14.mono hb13.size)⟩
end Go.Proofs.YtenkhbiikecegaaGreat

