/- raft: the document's examples are as they must be. -/
import Derived.Test.YthfofnfkopnbhaaZ15
namespace Go.Proofs.Ythfofnfkopnbhaa
open Go.RowKit Go.Maps Go.ChangeMaps
set_option linter.unusedVariables false
set_option linter.unusedSimpArgs false
set_option linter.unusedSectionVars false
set_option maxRecDepth 100000

/-- A call leaves all that is older. -/
theorem Told.below {P : Nat} {n id : Int} {m : Pm} {c' : Cs En} {w w' : World} {e : Ending} (h : Told P n id m P c' w e w') {D : Nat} (hD : ∀ b, m.Own P b → D ≤ b) (hs : D ≤ w.heap.size) : Below D w w' := by
  obtain ⟨lv, m', h1, h2, h3, h4, h5⟩ := h
  exact ⟨h4.os, h4.tape, h4.output, h4.size, fun b hb => h4.block b (by omega) ⟨fun q => by have := hD b q; omega, fun e => by have := hD P (.inl rfl); omega⟩⟩
/-- A peer of its own, and what it told last, in a block of its own. -/
structure AwI (D : Nat) (w : World) (n : Int) (P : Nat) (m : Pm) (c : Cs En) (OB : Nat) (z0 z1 z2 z3 z4 : Value) : Prop where
  pe : PeA w P n 1 m (fun _ => False) c
  own : ∀ b, m.Own P b → D ≤ b
  ob : Bk w OB 48 [z0, z1, z2, z3, z4]
  od : D ≤ OB
  on : ¬ m.Own P OB
theorem AwI.oc {D : Nat} {w : World} {n : Int} {P : Nat} {m : Pm} {c : Cs En} {OB : Nat} {z0 z1 z2 z3 z4 : Value} (h : AwI D w n P m c OB z0 z1 z2 z3 z4) : w.cell? ⟨OB, 0, none⟩ = some z0 ∧ w.cell? ⟨OB, 1, none⟩ = some z1 ∧ w.cell? ⟨OB, 2, none⟩ = some z2 ∧ w.cell? ⟨OB, 3, none⟩ = some z3 ∧ w.cell? ⟨OB, 4, none⟩ = some z4 := cells5 h.ob
/-- What a call told is written. -/
theorem AwI.told {D : Nat} {w w' : World} {n : Int} {P : Nat} {m : Pm} {c : Cs En} {OB : Nat} {z0 z1 z2 z3 z4 : Value} {c' : Cs En} (h : AwI D w n P m c OB z0 z1 z2 z3 z4) (hs : D ≤ w.heap.size) {e : Ending} (ht : Told P n 1 m P c' w e w') :
    ∃ A cap m', e = .returned (outV c' (.slice A c'.out.length cap)) ∧ Bk w' OB 48 [z0, z1, z2, z3, z4] ∧ (∀ (w5 : World), Ag (fun b => b ≠ OB) w' w5 → Bk w5 OB 48 [.int .i64 c'.p.T, .int .i64 c'.p.V, .int .i64 c'.frm, .int .i64 c'.p.C, .slice A c'.out.length cap] →
      AwI D w5 n P m' { c' with out := [] } OB (.int .i64 c'.p.T) (.int .i64 c'.p.V) (.int .i64 c'.frm) (.int .i64 c'.p.C) (.slice A c'.out.length cap) ∧ LsAt w5 (fun b => b < w5.heap.size ∧ ¬ m'.Own P b ∧ D ≤ b ∧ b ≠ OB) (.slice A c'.out.length cap) c'.out ∧ Below D w w5) := by
  have hb := ht.below h.own hs
  obtain ⟨lv, m', h1, h2, h3, h4, h5⟩ := ht
  obtain ⟨A, cap, rfl⟩ := h5.form
  have hlt := h.ob.lt
  have hoP : OB ≠ P := fun e => h.on (.inl e)
  have hn : ¬ m'.Own P OB := fun q => (h3 OB q).elim h.on (fun q => by omega)
  refine ⟨A, cap, m', h1, h.ob.ag h4 ⟨h.on, hoP⟩, fun w5 ha hk => ⟨⟨h2.ag (ha.mono (fun b _ hb => hb.elim (fun q => fun e => hn (e ▸ q)) (fun q => q.elim))), fun b q => (h3 b q).elim (h.own b) (fun q => by omega), hk, h.od, hn⟩, h5.keep (fun b q => ha.block b q.1 (fun e => ?_)) (fun b q => ⟨by have := ha.size; have := q.1; omega, q.2.1, q.2.2.elim (h.own b) (fun q => by omega), fun e => ?_⟩), hb.trans ⟨ha.os, ha.tape, ha.output, ha.size, fun b q => ha.block b (by have := hb.size; omega) (by have := h.od; omega)⟩⟩⟩
  · subst e; exact q.2.2.elim h.on (fun q => by omega)
  · subst e; exact q.2.2.elim h.on (fun q => by omega)
/-- A peer, so many ticks old; behind the tenth: what stood. -/
def AwL (D : Nat) (n : Int) (P OB k : Nat) (w : World) : Prop :=
  (k ≤ 9 ∧ ∃ m z0 z1 z2 z3 z4, AwI D w n P m ⟨sP k, 0, []⟩ OB z0 z1 z2 z3 z4) ∨
  (k = 10 ∧ ∃ m A cap, AwI D w n P m { tickP En.term noopE n 1 0 ⟨sP 9, 0, []⟩ with out := [] } OB (.int .i64 (tickP En.term noopE n 1 0 ⟨sP 9, 0, []⟩).p.T) (.int .i64 (tickP En.term noopE n 1 0 ⟨sP 9, 0, []⟩).p.V) (.int .i64 (tickP En.term noopE n 1 0 ⟨sP 9, 0, []⟩).frm) (.int .i64 (tickP En.term noopE n 1 0 ⟨sP 9, 0, []⟩).p.C) (.slice A (tickP En.term noopE n 1 0 ⟨sP 9, 0, []⟩).out.length cap) ∧
    LsAt w (fun b => b < w.heap.size ∧ ¬ m.Own P b ∧ D ≤ b ∧ b ≠ OB) (.slice A (tickP En.term noopE n 1 0 ⟨sP 9, 0, []⟩).out.length cap) (tickP En.term noopE n 1 0 ⟨sP 9, 0, []⟩).out)
theorem AwL.tick {D : Nat} {n : Int} {P OB k : Nat} {w : World} (h : AwL D n P OB k w) (hk : k ≤ 9) (hs : D ≤ w.heap.size) (h1 : 1 ≤ n) (h7 : n ≤ 7) :
    Calls Try.prog 13 #[.pointer (some ⟨P, 0, none⟩), .int .i64 0] w fun e w' => ∃ t v f c A l cap, e = .returned (.agg #[.int .i64 t, .int .i64 v, .int .i64 f, .int .i64 c, .slice A l cap]) ∧ (∃ y0 y1 y2 y3 y4, Bk w' OB 48 [y0, y1, y2, y3, y4]) ∧
      ∀ w5, Ag (fun b => b ≠ OB) w' w5 → Bk w5 OB 48 [.int .i64 t, .int .i64 v, .int .i64 f, .int .i64 c, .slice A l cap] → AwL D n P OB (k + 1) w5 ∧ Below D w w5 := by
  rcases h with ⟨_, m, z0, z1, z2, z3, z4, h⟩ | ⟨h10, _⟩
  · refine (tick_any 0 h.pe (ok_s n k h1 h7 (by omega) (by omega))).mono ?_
    intro e w' ht
    obtain ⟨A, cap, m', he, hb, hgo⟩ := h.told hs ht
    refine ⟨_, _, _, _, _, _, _, he, ⟨z0, z1, z2, z3, z4, hb⟩, fun w5 ha hk5 => ?_⟩
    obtain ⟨q1, q2, q3⟩ := hgo w5 ha hk5
    refine ⟨?_, q3⟩
    by_cases h9 : k = 9
    · subst h9
      exact .inr ⟨rfl, m', A, cap, q1, q2⟩
    · have e1 : tickP En.term noopE n 1 0 ⟨sP k, 0, []⟩ = ⟨sP ((k + 1 : Nat) : Int), 0, []⟩ := by rw [tick_s n k (by omega)]; rfl
      rw [show (⟨sP k, 0, []⟩ : Cs En).p = sP k from rfl, e1] at q1
      exact .inl ⟨by omega, m', _, _, _, _, _, q1⟩
  · omega
theorem LsAt.two {w : World} {K : Nat → Prop} {v : Value} {l l2 : Lt En} (h : LsAt w K v [l, l2]) : ∃ g cap A c, v = .slice (some ⟨g, 0, none⟩) 2 cap ∧ w.cell? ⟨g, 0, none⟩ = some (.int .u8 l.kind) ∧ w.cell? ⟨g, 9, none⟩ = some (.slice A l.ents.length c) ∧ w.cell? ⟨g, 12, none⟩ = some (.int .i64 l2.dst) ∧ K g := by
  obtain ⟨g, ds, h1, h2, h3, h4⟩ := h
  obtain ⟨d1, d2, rfl⟩ : ∃ d1 d2, ds = [d1, d2] := by
    match ds, h2 with
    | [d1, d2], _ => exact ⟨d1, d2, rfl⟩
  rcases h1.2 with ⟨_, e⟩ | ⟨cap, cur, rfl, hg, _, _, ht, _⟩
  · cases e
  have hc : ∀ j u, (rowL [l, l2] [d1, d2])[j]? = some u → w.cell? ⟨g, j, none⟩ = some u := by
    intro j u hj
    rw [← ht] at hj
    have hj2 : cur.toList[j]? = some u := by
      have hlt : j < 2 * 10 := by
        have := (List.getElem?_eq_some_iff.mp hj).1
        simp at this
        omega
      rw [List.getElem?_take_of_lt (by simpa using hlt)] at hj
      exact hj
    simp [World.cell?, hg]
    rw [← Array.getElem?_toList]
    exact hj2
  exact ⟨g, cap, d1.1, d1.2, rfl, hc 0 _ rfl, hc 9 _ rfl, hc 12 _ rfl, h3 rfl⟩
set_option maxHeartbeats 4000000 in
theorem awake_any (w : World) : Calls Try.prog 5 #[] w fun e w' => e = .returned (.bool true) ∧ Below w.heap.size w w' := by
  have hnl := NewS_any none 0 [] w ((none_ents w).keep (fun _ _ => rfl) (fun _ h => h.elim)) (by decide) (fun e he => by cases he)
  simp only [List.length_nil] at hnl
  go_enter Try.func5, Try.ntmps5
  go_wp2_with fail
  (with_reducible refine hnl.mono ?_)
  rintro _ w1 ⟨lp, rfl, hl1, hb1⟩
  clear hnl
  have hnw := new_ok w1 lp (Fresh w w1) 1 1 0 0 0 [] hl1 (fun b hb => hb.2) (by omega) (by omega) (by omega) (by omega) (by omega) (by omega) (by omega) (by omega) (by simp)
  go_wp2_with fail
  (with_reducible refine hnw.mono ?_)
  rintro _ w2 ⟨P, m, rfl, hp2, ho2, hb2⟩
  clear hnw
  have hB2 : Below w.heap.size w w2 := hb1.trans (hb2.mono hb1.size)
  have hown2 : ∀ b, m.Own P b → w.heap.size ≤ b := fun b q => (ho2 b q).elim (fun q => q.1) (fun q => by have := hb1.size; omega)
  have hP2 := Lib.hid hp2
  have hO2 := Lib.hid hown2
  have hBB := Lib.hid hB2
  clear hl1 hb1 hp2 ho2 hb2 hB2 hown2
  go_wp2_with fail
  have hI : AwL w.heap.size 1 P w2.heap.size 0 (w2.alloc (.cells #[.int .i64 0, .int .i64 0, .int .i64 0, .int .i64 0, .slice none 0 0] 48)) := by
    have hb3 : Below w2.heap.size w2 (w2.alloc (.cells #[.int .i64 0, .int .i64 0, .int .i64 0, .int .i64 0, .slice none 0 0] 48)) := (Below.refl _ _).alloc (Nat.le_refl _) _
    exact .inl ⟨by omega, m, _, _, _, _, _, hP2.out.below hb3, hO2.out, Bk.new w2 _ [.int .i64 0, .int .i64 0, .int .i64 0, .int .i64 0, .slice none 0 0], hBB.out.size, fun q => Nat.lt_irrefl _ (hP2.out.r.own _ q)⟩
  have hBa : Below w.heap.size w (w2.alloc (.cells #[.int .i64 0, .int .i64 0, .int .i64 0, .int .i64 0, .slice none 0 0] 48)) := hBB.out.alloc hBB.out.size _
  obtain ⟨OB, hOB⟩ : ∃ OB, OB = w2.heap.size := ⟨_, rfl⟩
  rw [← hOB] at hI ⊢
  generalize (w2.alloc (.cells #[.int .i64 0, .int .i64 0, .int .i64 0, .int .i64 0, .slice none 0 0] 48)) = w3 at *
  clear hP2 hO2 hBB hOB
  go_loopw [3] (fun i wr => ∃ k : Nat, k ≤ 10 ∧ i = .int .i64 k ∧ AwL w.heap.size 1 P OB k wr ∧ Below w.heap.size w wr) (fun i _ => 10 - (intOf i).toNat)
  case atStart => exact ⟨0, by omega, rfl, hI, hBa⟩
  case round =>
    clear hI hBa
    obtain ⟨k, hk, rfl, hI, hB⟩ := hrel
    by_cases hlt : k < 10
    · have d1 : decide ((k : Int) < 10) = true := decide_eq_true (by omega)
      have hT := hI.tick (by omega) hB.size (by omega) (by omega)
      have HB := Lib.hid hB
      clear hI hB
      go_wp2_with fail
      (with_reducible refine hT.mono ?_)
      rintro _ w4 ⟨t, v, f, c, A, l, cap, rfl, ⟨y0, y1, y2, y3, y4, hbk⟩, hgo⟩
      clear hT
      have hF := bk5 hbk (.int .i64 t) (.int .i64 v) (.int .i64 f) (.int .i64 c) (.slice A l cap)
      have hA := ag5 w4 OB (.int .i64 t) (.int .i64 v) (.int .i64 f) (.int .i64 c) (.slice A l cap)
      have HG := Lib.hid (hgo _ hA hF)
      obtain ⟨o0, o1, o2, o3, o4⟩ := cells5 hbk
      have of := hbk.frozen
      clear hgo hA hF hbk
      go_wp2_with fail
      go_roundw
      case rel => exact ⟨k + 1, by omega, by go_num, HG.out.1, HB.out.trans (HG.out.2)⟩
      case measure => simp [intOf]; omega
    · have d1 : decide ((k : Int) < 10) = false := decide_eq_false (by omega)
      have hk10 : k = 10 := by omega
      subst hk10
      rcases hI with ⟨h9, _⟩ | ⟨_, m2, A, cap, hI, _⟩
      · omega
      have a1 : (tickP En.term noopE 1 1 0 ⟨sP 9, 0, []⟩).p.T = 1 := cA_is.1
      have a2 : (tickP En.term noopE 1 1 0 ⟨sP 9, 0, []⟩).p.V = 1 := cA_is.2.1
      have a3 : (tickP En.term noopE 1 1 0 ⟨sP 9, 0, []⟩).frm = 1 := cA_is.2.2.1
      have a4 : (tickP En.term noopE 1 1 0 ⟨sP 9, 0, []⟩).p.C = 1 := cA_is.2.2.2.1
      have a5 : (tickP En.term noopE 1 1 0 ⟨sP 9, 0, []⟩).out.length = 0 := by rw [show (tickP En.term noopE 1 1 0 ⟨sP 9, 0, []⟩).out = [] from cA_is.2.2.2.2.1]; rfl
      have a6 : ((tickP En.term noopE 1 1 0 ⟨sP 9, 0, []⟩).p.role == 3) = true := by rw [show (tickP En.term noopE 1 1 0 ⟨sP 9, 0, []⟩).p.role = 3 from cA_is.2.2.2.2.2]; rfl
      have hLd := (leads_any hI.pe (by decide)).mono (R' := fun e w' => e = .returned (.bool true) ∧ wr = w') (by
        rintro e w' ⟨rfl, rfl⟩
        exact ⟨by rw [← a6], rfl⟩)
      rw [a1, a2, a3, a4, a5] at hI
      have hO := hI.ob
      obtain ⟨o0, o1, o2, o3, o4⟩ := cells5 hO
      have HO := Lib.hid hO
      have HB := Lib.hid hB
      have HD := Lib.hid hI.od
      have hnl := NewS_any none 0 [] wr ((none_ents wr).keep (fun _ _ => rfl) (fun _ h => h.elim)) (by decide) (fun e he => by cases he)
      simp only [List.length_nil] at hnl
      clear hI hB a1 a2 a3 a4 a5 a6 hO hk hlt
      go_wp2_with fail
      (with_reducible refine hLd.mono ?_)
      rintro _ _ ⟨rfl, rfl⟩
      clear hLd
      go_wp2_with fail
      (with_reducible refine hnl.mono ?_)
      rintro _ w1 ⟨lp2, rfl, hl1, hb1⟩
      clear hnl
      have hnw := new_ok w1 lp2 (Fresh wr w1) 3 1 0 0 0 [] hl1 (fun b hb => hb.2) (by omega) (by omega) (by omega) (by omega) (by omega) (by omega) (by omega) (by omega) (by simp)
      go_wp2_with fail
      (with_reducible refine hnw.mono ?_)
      rintro _ w2 ⟨Q, m, rfl, hp2, ho2, hb2⟩
      clear hnw
      have hB2 : Below wr.heap.size wr w2 := hb1.trans (hb2.mono hb1.size)
      have hown2 : ∀ b, m.Own Q b → wr.heap.size ≤ b := fun b q => (ho2 b q).elim (fun q => q.1) (fun q => by have := hb1.size; omega)
      have hI : AwL w.heap.size 3 Q OB 0 w2 := .inl ⟨by omega, m, _, _, _, _, _, hp2, fun b q => Nat.le_trans HB.out.size (hown2 b q), HO.out.below hB2 HO.out.lt, HD.out, fun q => by have := hown2 _ q; have := HO.out.lt; omega⟩
      have hBa : Below w.heap.size w w2 := HB.out.trans (hB2.mono HB.out.size)
      clear hl1 hb1 hp2 ho2 hb2 hB2 hown2 o0 o1 o2 o3 o4 HO HB
      go_wp2_with fail
      go_loopw [5] (fun i wr => ∃ k : Nat, k ≤ 10 ∧ i = .int .i64 k ∧ AwL w.heap.size 3 Q OB k wr ∧ Below w.heap.size w wr) (fun i _ => 10 - (intOf i).toNat)
      case atStart => exact ⟨0, by omega, rfl, hI, hBa⟩
      case round =>
        clear hI hBa
        obtain ⟨k, hk, rfl, hI, hB⟩ := hrel
        by_cases hlt : k < 10
        · have d1 : decide ((k : Int) < 10) = true := decide_eq_true (by omega)
          have hT := hI.tick (by omega) hB.size (by omega) (by omega)
          have HB := Lib.hid hB
          clear hI hB
          go_wp2_with fail
          (with_reducible refine hT.mono ?_)
          rintro _ w4 ⟨t, v, f, c, A, l, cap, rfl, ⟨y0, y1, y2, y3, y4, hbk⟩, hgo⟩
          clear hT
          have hF := bk5 hbk (.int .i64 t) (.int .i64 v) (.int .i64 f) (.int .i64 c) (.slice A l cap)
          have hA := ag5 w4 OB (.int .i64 t) (.int .i64 v) (.int .i64 f) (.int .i64 c) (.slice A l cap)
          have HG := Lib.hid (hgo _ hA hF)
          obtain ⟨o0, o1, o2, o3, o4⟩ := cells5 hbk
          have of := hbk.frozen
          clear hgo hA hF hbk
          go_wp2_with fail
          go_roundw
          case rel => exact ⟨k + 1, by omega, by go_num, HG.out.1, HB.out.trans (HG.out.2)⟩
          case measure => simp [intOf]; omega
        · have d1 : decide ((k : Int) < 10) = false := decide_eq_false (by omega)
          have hk10 : k = 10 := by omega
          subst hk10
          rcases hI with ⟨h9, _⟩ | ⟨_, m3, A, cap, hI, hLs⟩
          · omega
          have e1 : tickP En.term noopE 3 1 0 ⟨sP 9, 0, []⟩ = cB := rfl
          rw [e1] at hI hLs
          have hLet := letter_any true lB 0 none 0 (fun _ => False) ⟨fun _ => lB_right, fun _ => rfl⟩ hI.pe ok_b (none_ents _) (fun _ h => h.elim) (by decide) (fun e he => by cases he) (fun e => by rw [cB_is.1] at e; exact absurd (show (2 : Int) = 3 from e) (by decide))
          have e2 : letterP En.term noopE 3 1 true lB ⟨cB.p, 0, []⟩ = cX := rfl
          have hOwn := Lib.hid hI.own
          have hOn := Lib.hid hI.on
          have hOb := Lib.hid hI.ob
          have hBr := Lib.hid hB
          rw [e2] at hLet
          rw [cB_is.2] at hLs
          obtain ⟨g, cp, LA, lc, hlv, hk0, hk9, hk12, hKg⟩ := hLs.two
          have hlen2 : cB.out.length = 2 := by rw [cB_is.2]; rfl
          replace hOb := hOb.out
          rw [hlen2] at hOb
          replace hOb := Lib.hid hOb
          injection hlv with hlA _ hcp
          subst hlA
          subst hcp
          have HOB := hOb
          have HLET := hLet
          simp only [lB, lt0, ltA, ltV, List.length_nil] at hLet
          have hk0' : wr.cell? ⟨g, 0, none⟩ = some (.int .u8 1) := hk0
          have hk12' : wr.cell? ⟨g, 12, none⟩ = some (.int .i64 3) := hk12
          clear hI hLs hB hk0 hk9 hk12 HLET hk hlt e1 e2
          go_wp2_with fail
          (with_reducible refine hLet.mono ?_)
          rintro _ w4 ⟨lv, m4, rfl, t2, t3, t4, t5⟩
          clear hLet
          obtain ⟨x1, x2, x3, l, l2, x4, x5, x6⟩ := cX_is
          have t5' := t5
          rw [x4] at t5'
          obtain ⟨g2, cp2, LA2, lc2, rfl, y0, y9, y12, hKg2⟩ := t5'.two
          have hOB4 := HOB.out.ag t4 ⟨hOn.out, fun e => hOn.out (.inl e)⟩
          have hg4 : w4.heap[g]? = wr.heap[g]? := t4.block g hKg.1 ⟨hKg.2.1, fun e => hKg.2.1 (.inl e)⟩
          have hbA : ∀ o, Below w4.heap.size w4 (w4.alloc o) := fun o => (Below.refl _ _).alloc (Nat.le_refl _) _
          have q0 : ∀ o, (w4.alloc o).cell? ⟨g, 0, none⟩ = some (.int .u8 1) := fun o => (World.cell?_of_block (((hbA o).block g (Nat.lt_of_lt_of_le hKg.1 t4.size)).trans hg4)).trans hk0'
          have q12 : ∀ o, (w4.alloc o).cell? ⟨g, 12, none⟩ = some (.int .i64 3) := fun o => (World.cell?_of_block (((hbA o).block g (Nat.lt_of_lt_of_le hKg.1 t4.size)).trans hg4)).trans hk12'
          have r4 : ∀ o, (w4.alloc o).cell? ⟨OB, 4, none⟩ = some (.slice (some ⟨g, 0, none⟩) 2 cap) := fun o => (hOB4.below (hbA o) hOB4.lt).cell 4
          have p0 : ∀ o, (w4.alloc o).cell? ⟨g2, 0, none⟩ = some (.int .u8 3) := fun o => (World.cell?_of_block ((hbA o).block g2 hKg2.1)).trans (by rw [y0, x5])
          have p9 : ∀ o, (w4.alloc o).cell? ⟨g2, 9, none⟩ = some (.slice LA2 1 lc2) := fun o => (World.cell?_of_block ((hbA o).block g2 hKg2.1)).trans (by rw [y9, x6])
          have hLd : ∀ o, Calls Try.prog 15 #[.pointer (some ⟨Q, 0, none⟩)] (w4.alloc o) fun e w' => e = .returned (.bool true) ∧ (w4.alloc o) = w' := fun o => (leads_any (t2.below (hbA o)) (by decide)).mono (by
            rintro e w' ⟨rfl, rfl⟩
            exact ⟨by rw [show (cX.p.role == 3) = true by rw [x1]; rfl], rfl⟩)
          have hbe : Below w.heap.size w w4 := hBr.out.trans ⟨t4.os, t4.tape, t4.output, t4.size, fun b hb => t4.block b (Nat.lt_of_lt_of_le hb hBr.out.size) ⟨fun q => by have := hOwn.out b q; omega, fun e => by have := hOwn.out b (.inl e); omega⟩⟩
          have HBE := Lib.hid hbe
          clear t2 t3 t4 t5 t5' x4 x5 x6 y0 y9 y12 hKg hKg2 hOB4 hg4 hbA hbe hk0' hk12' x1
          unfold outV
          rw [x2]
          go_wp2_with fail
          refine (hLd _).mono ?_
          rintro _ _ ⟨rfl, rfl⟩
          clear hLd
          go_wp2_with fail
          go_ret
          exact ⟨rfl, HBE.out.alloc HBE.out.size _⟩
end Go.Proofs.Ythfofnfkopnbhaa

