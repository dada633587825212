/- disk: the document's Append. -/
import Derived.Test.YtcmbeolicopicaaGreatE9
import Derived.IntWalk
namespace Go.Proofs.YtcmbeolicopicaaGreat
open Go.RowKit Go.Maps Go.ChangeMaps
set_option linter.unusedVariables false
set_option linter.unusedSectionVars false
set_option linter.unusedSimpArgs false
set_option maxRecDepth 100000

theorem RD.wide {B B' : Nat → Prop} {X n : Nat} {room : Int} {P : List RF} {v : Value} {w : World} (h : RD B X room P n v w) (hB : ∀ j, B j → B' j) (hlt : ∀ j, B' j → j < w.heap.size) : RD B' X room P n v w :=
  ⟨h.bk, h.row, fun g e => hB _ (h.own g e), hB _ h.hX, hlt, fun f hf => (h.dat f hf).keep (fun _ _ _ => rfl) (Nat.le_refl _) (fun b q _ => hB b q), h.srt, h.len, h.few, h.nn⟩
theorem RD.mono {B : Nat → Prop} {X n n' : Nat} {room : Int} {P : List RF} {v : Value} {w : World} (h : RD B X room P n v w) (h1 : n ≤ n') (h2 : n' ≤ 1000000) : RD B X room P n' v w :=
  ⟨h.bk, h.row, h.own, h.hX, h.lt, h.dat, h.srt, h.len, Nat.le_trans h.few h1, h2⟩
theorem RDid.same {B : Nat → Prop} {X n n' : Nat} {room : Int} {P : List RF} {v : Value} {w w' : World} (h : RD B X room P n v w') (hb : Below w.heap.size w w') (h1 : n ≤ n') (h2 : n' ≤ 1000000) : RDid B X room (P.map RF.fe) n' w w' :=
  ⟨B, fun _ q => .inl q, ⟨P, v, h.mono h1 h2, rfl⟩, Below.lv hb⟩
theorem RDid.more {B : Nat → Prop} {X n n' : Nat} {room : Int} {L : List FE} {w w' : World} (h : RDid B X room L n w w') (h1 : n ≤ n') (h2 : n' ≤ 1000000) : RDid B X room L n' w w' := by
  obtain ⟨B', q1, ⟨P, v, q2, q3⟩, q4⟩ := h
  exact ⟨B', q1, ⟨P, v, q2.mono h1 h2, q3⟩, q4⟩
theorem RDid.wide {B B1 : Nat → Prop} {X n : Nat} {room : Int} {L : List FE} {w w1 w2 : World} (h : RDid B1 X room L n w1 w2) (hb : Below w.heap.size w w1) (hB : ∀ j, B1 j → B j ∨ w.heap.size ≤ j) : RDid B X room L n w w2 := by
  obtain ⟨B', h1, h2, h3⟩ := h
  exact ⟨B', fun j q => (h1 j q).elim (hB j) (fun q => .inr (Nat.le_trans hb.size q)), h2, (Below.lv hb).trans h3 hB⟩
theorem Dat.below {W W' : World} {K : Nat → Prop} {A : Option Addr} {c : Nat} {l : List Int} (h : Dat W K A c l) (hb : Below W.heap.size W W') : Dat W' K A c l := h.keep (fun b _ hl => hb.block b hl) hb.size (fun _ q _ => q)
section
variable {B : Nat → Prop} {X n : Nat} {room : Int} {P : List RF} {v : Value} {w : World} (h : RD B X room P n v w)
include h
set_option maxHeartbeats 2000000 in
theorem rop_append_out {K : Nat → Prop} (s : Nm) (A : Option Addr) (c : Nat) (l : List Int) (hr : Rd w K A c (u8s l)) (hK : ∀ b, K b → b < w.heap.size) (hl : l.length ≤ 100000000) (hok : okN s = true) (hsl : s.length ≤ 24) (e : fd (P.map RF.fe) s = none) (hn : n + 1 ≤ 1000000) :
    Calls Tryz.prog 35 #[.pointer (some ⟨X, 0, none⟩), nmV s, .slice A l.length c] w fun e w' => e = .returned (.int .i64 (appE room (P.map RF.fe) s l)) ∧ RDid B X room (appL room (P.map RF.fe) s l) (n + 1) w w' := by
  have hnm := rname_any s w (by omega)
  rw [hok] at hnm
  have hb1 : Below w.heap.size w (w.alloc (.cells #[nmV s, .slice none 0 0, .int .i64 0] 67)) := (Below.refl _ _).alloc (Nat.le_refl _) _
  have hx1 : Bk (w.alloc (.cells #[nmV s, .slice none 0 0, .int .i64 0] 67)) w.heap.size 67 [nmV s, .slice none 0 0, .int .i64 0] := Bk.new w _ _
  have hp := place_out (h.below hb1) e
  have H0 := Lib.hid h
  have HO : Hid (oldF (P.map RF.fe) s = [] ∧ oldN (P.map RF.fe) s = 0) := Lib.hid (by unfold oldF oldN; rw [e]; exact ⟨rfl, rfl⟩)
  have HE := Lib.hid e
  clear h e
  unfold nmV at *
  go_enter Tryz.func35, Tryz.ntmps35
  go_wp2_with fail
  (with_reducible refine hnm.mono ?_)
  rintro _ _ ⟨rfl, rfl⟩
  clear hnm
  go_wp2_with fail
  (with_reducible refine hp.mono ?_)
  rintro _ _ ⟨rfl, q, rfl⟩
  clear hp
  have hbw : Below w.heap.size w ((w.alloc (.cells #[.string ⟨s.toArray⟩, .slice none 0 0, .int .i64 0] 67)).drewN q) := hb1.trans ((below_drewN (Below.refl _ _) q).mono hb1.size)
  have hx : Bk ((w.alloc (.cells #[.string ⟨s.toArray⟩, .slice none 0 0, .int .i64 0] 67)).drewN q) w.heap.size 67 [nmV s, .slice none 0 0, .int .i64 0] := hx1
  clear hb1 hx1
  generalize (w.alloc (.cells #[.string ⟨s.toArray⟩, .slice none 0 0, .int .i64 0] 67)).drewN q = W at *
  have H := Lib.hid (H0.out.below hbw)
  have hod : Dat W B none 0 [] := Dat.nil _ _
  have c0 := hx.cell 0
  have c1 := hx.cell 1
  have c2 := hx.cell 2
  have z1 := hx.frozen 1
  simp only [List.getElem?_cons_zero, List.getElem?_cons_succ] at c0 c1 c2
  have hmax : P.length ≤ 1000000 := Nat.le_trans H.out.few H.out.nn
  have hus : usedF (P.map RF.fe) ≤ 8388608000000 := by
    have := H.out.used_le P.length
    rw [List.take_of_length_le (by simp)] at this
    omega
  have hE : Hid (appE room (P.map RF.fe) s l = if 8388608 < ([]:List Int).length + l.length then 3 else if room < usedF (P.map RF.fe) + l.length then 5 else 0) := Lib.hid (by
    unfold appE
    rw [hok, HO.out.1]
    rfl)
  have hL : Hid (appL room (P.map RF.fe) s l = if appE room (P.map RF.fe) s l = 0 then putF (P.map RF.fe) ⟨s, ([]:List Int) ++ l, 0⟩ else P.map RF.fe) := Lib.hid (by
    unfold appL
    rw [HO.out.1, HO.out.2])
  have HS := Lib.hid (RDid.same H.out hbw (Nat.le_succ n) hn)
  by_cases hlong : 8388608 < ([]:List Int).length + l.length
  · have d1 : decide ((8388608 : Int) < (l.length : Int)) = true := decide_eq_true (by have : ([]:List Int).length = 0 := rfl; omega)
    have HE2 : Hid (appE room (P.map RF.fe) s l = 3) := Lib.hid (by rw [hE.out, if_pos hlong])
    clear hlong
    go_wp2_with fail
    go_ret
    exact ⟨by rw [HE2.out]; rfl, by rw [hL.out, HE2.out]; exact HS.out⟩
  have d1 : decide ((8388608 : Int) < (l.length : Int)) = false := decide_eq_false (by have : ([]:List Int).length = 0 := rfl; omega)
  go_wp2_with fail
  refine wp_region_still_lit (by kernel_rfl) (by kernel_rfl) ?_
  change wpStill _ _ W.drew (fun a' => (_ : Exit → Act → World → Prop) .normal a' W.drew) _ _
  have H2 := Lib.hid (H.out.below (Below.refl _ _).drew)
  have HB2 := Lib.hid hbw.drew
  have hx2 : Bk W.drew w.heap.size 67 [nmV s, .slice none ([]:List Int).length 0, .int .i64 0] := hx
  have HD2 := Lib.hid (hod.keep (w' := W.drew) (K' := B) (fun _ _ _ => rfl) (Nat.le_refl _) (fun b q _ => q))
  clear H hbw hx hod c0 c1 c2 z1
  generalize W.drew = WD at *
  have cr := H2.out.c1
  have c1 := hx2.cell 1
  have c0 := hx2.cell 0
  have c2 := hx2.cell 2
  have z1 := hx2.frozen 1
  simp only [List.getElem?_cons_zero, List.getElem?_cons_succ] at c0 c1 c2
  by_cases hfull : room < (usedF (P.map RF.fe) : Int) + (l.length : Int)
  · have d2 : decide (room < (usedF (P.map RF.fe) : Int) + (l.length : Int)) = true := decide_eq_true hfull
    have HE2 : Hid (appE room (P.map RF.fe) s l = 5) := Lib.hid (by rw [hE.out, if_neg hlong, if_pos hfull])
    clear hlong hfull
    have hw := IntWalk.i64_in ((usedF (P.map RF.fe) : Int) + (l.length : Int)) (by omega)
    repeat still_step
    still_call (rused_any H2.out)
    repeat still_step
    refine wpStill_nil ?_
    clear hw
    go_wp2_with fail
    go_ret
    exact ⟨by rw [HE2.out]; rfl, by rw [hL.out, HE2.out]; exact (RDid.same H2.out HB2.out (Nat.le_succ n) hn)⟩
  have d2 : decide (room < (usedF (P.map RF.fe) : Int) + (l.length : Int)) = false := decide_eq_false hfull
  have HE2 : Hid (appE room (P.map RF.fe) s l = 0) := Lib.hid (by rw [hE.out, if_neg hlong, if_neg hfull])
  have HLL : Hid (([]:List Int).length + l.length ≤ 8388608) := Lib.hid (by omega)
  clear hfull hlong
  have hw := IntWalk.i64_in ((usedF (P.map RF.fe) : Int) + (l.length : Int)) (by omega)
  repeat still_step
  still_call (rused_any H2.out)
  repeat still_step
  refine wpStill_nil ?_
  clear hw
  obtain ⟨i0, hi, hz0, hz1, hz2⟩ := info_parts infoU8
  obtain ⟨LL, hLE⟩ : ∃ LL, Hid (LL = ([]:List Int) ++ l) := ⟨_, Lib.hid rfl⟩
  have hlL : LL.length ≤ 8388608 := by rw [hLE.out, List.length_append]; exact HLL.out
  have hoL : ([]:List Int).length ≤ 8388608 := by have := HLL.out; omega
  have hb3 : Below WD.heap.size WD (WD.alloc (.cells #[] 5)) := (Below.refl _ _).alloc (Nat.le_refl _) _
  have hown := owns_new0 WD WD.heap.size 5 1 (Nat.le_refl _)
  have hx3 := hx2.below hb3 hx2.lt
  have hrd := (HD2.out.below hb3).rd.1
  have d0 := hx3.cell 0
  have d1' := hx3.cell 1
  simp only [List.getElem?_cons_zero, List.getElem?_cons_succ] at d0 d1'
  have HX := Lib.hid hx2
  have hNl : w.heap.size < WD.heap.size := hx2.lt
  clear c0 c1 c2 z1 cr hx2 hx3 hus
  go_wp2_with (first
    | (at_builtin; refine wpList_append_ownA (by rfl) (.tmp 46) (.tmp 48) 29 (by rfl) WD.heap.size 5 i0 _ 1 1 Tryz.underlying29 hi hz0 hz1 hz2 rfl (by decide) _ 0 [] (by rfl) hown none ([]:List Int).length 0 (u8s ([]:List Int)) (by rfl) (by simp) (fun e => by have := hrd.nonone e; rwa [u8s_len] at this) hrd.cells (u8s_one ([]:List Int)) (by unfold maxLen; omega) (by omega) (by simp) ?_; intro v4 W4 hr4 hg4; rw [Nat.zero_add, List.nil_append] at hr4; have hb4 : Below WD.heap.size WD W4 := hb3.trans (grown_below hg4 (fun g e => Nat.le_of_eq (Option.some.inj e)) (by simp)); have hrA := hr.keep (w' := W4) (K' := K) (fun b q => (hb4.block b (Nat.lt_of_lt_of_le (hK b q) HB2.out.size)).trans (HB2.out.block b (hK b q))) (fun _ q => q); have hown4 := fun g e => (owns_block hr4 g e).1; clear hg4 hb3 hown hrd d0 d1')
    | (at_builtin; refine wpList_append_ownA (by rfl) (.tmp 49) (.tmp 50) 29 (by rfl) WD.heap.size 5 i0 _ 1 1 Tryz.underlying29 hi hz0 hz1 hz2 rfl (by decide) _ ([]:List Int).length (u8s ([]:List Int)) (by rfl) hr4 A l.length c (u8s l) (by rfl) (by simp) (fun e => by have := hrA.nonone e; rwa [u8s_len] at this) hrA.cells (u8s_one l) (by unfold maxLen; omega) (by omega) hb4.size ?_; intro v5 W5 hr5 hg5; rw [← u8s_app, ← List.length_append, ← hLE.out] at hr5; have hb5 : Below WD.heap.size WD W5 := hb4.trans (grown_below hg5 hown4 hb4.size); obtain ⟨A5, c5, rfl, hd5⟩ := own_dat hr5; have hx5 := HX.out.below hb5 hNl; have f0 := hx5.cell 0; have f1 := hx5.cell 1; have f2 := hx5.cell 2; have y1 := hx5.frozen 1; simp only [List.getElem?_cons_zero, List.getElem?_cons_succ] at f0 f1 f2; unfold nmV at f0; clear hg5 hr5 hb4 hrA hown4 hr4))
  have hfar : ∀ k, k ≠ w.heap.size → (W5.setCell ⟨w.heap.size, 1, none⟩ (.slice A5 LL.length c5)).heap[k]? = W5.heap[k]? := fun k hk => Below.heap_setCell _ _ _ k hk
  have hx6 := hx5.set 1 (.slice A5 LL.length c5)
  have hs6 : (W5.setCell ⟨w.heap.size, 1, none⟩ (.slice A5 LL.length c5)).heap.size = W5.heap.size := by simp [World.setCell]
  have hb6 : Below w.heap.size w (W5.setCell ⟨w.heap.size, 1, none⟩ (.slice A5 LL.length c5)) := (HB2.out.trans (hb5.mono HB2.out.size)).setCell (p := ⟨w.heap.size, 1, none⟩) (Nat.le_refl _) _
  have hs5 := hb5.size
  have h6 := (H0.out.below hb6).wide (B' := fun j => B j ∨ (w.heap.size ≤ j ∧ j < W5.heap.size)) (fun _ q => .inl q) (fun j q => by
    rw [hs6]
    rcases q with q | q
    · have := H0.out.lt j q
      have := HB2.out.size
      omega
    · exact q.2)
  have hd6 : Dat (W5.setCell ⟨w.heap.size, 1, none⟩ (.slice A5 LL.length c5)) (fun j => B j ∨ (w.heap.size ≤ j ∧ j < W5.heap.size)) A5 c5 LL := hd5.keep (fun b q _ => hfar b (by omega)) (by rw [hs6]; exact Nat.le_refl _) (fun b q hl => .inr ⟨by omega, hl⟩)
  have hsx := hx6.cell 0
  have hsy := hx6.cell 1
  have hsz := hx6.cell 2
  simp only [List.getElem?_cons_zero, List.getElem?_cons_succ, List.set_cons_zero, List.set_cons_succ] at hsx hsy hsz
  have HB6 := Lib.hid hb6
  unfold nmV at hsx
  have hput := rput_out h6 (f' := ⟨s, A5, c5, LL, 0⟩) HE.out ⟨hlL, Nat.zero_le _, hsl⟩ hd6 hn
  unfold RF.agg RF.dv nmV at hput
  dsimp only at hput
  try rw [show ((0 : Nat) : Int) = 0 from rfl] at hput
  clear hx5 hx6 h6 hd6 hb6 hfar hs6 hd5 HX hE
  generalize W5.setCell ⟨w.heap.size, 1, none⟩ (.slice A5 LL.length c5) = W6 at *
  (with_reducible refine hput.mono ?_)
  rintro _ W7 ⟨rfl, hfin⟩
  have HF := Lib.hid hfin
  clear hput hfin
  go_wp2_with fail
  go_ret
  refine ⟨by rw [HE2.out]; rfl, ?_⟩
  rw [hL.out, if_pos HE2.out, ← hLE.out]
  exact (HF.out).wide HB6.out (fun j q => q.imp id (fun q => q.1))
set_option maxHeartbeats 2000000 in
theorem rop_append_in {K : Nat → Prop} (s : Nm) {f : RF} (A : Option Addr) (c : Nat) (l : List Int) (hr : Rd w K A c (u8s l)) (hK : ∀ b, K b → b < w.heap.size) (hl : l.length ≤ 100000000) (hok : okN s = true) (hsl : s.length ≤ 24) (e : P[plc (P.map RF.fe) s]? = some f) (hs : f.s = s) (hn : n + 1 ≤ 1000000) :
    Calls Tryz.prog 35 #[.pointer (some ⟨X, 0, none⟩), nmV s, .slice A l.length c] w fun e w' => e = .returned (.int .i64 (appE room (P.map RF.fe) s l)) ∧ RDid B X room (appL room (P.map RF.fe) s l) (n + 1) w w' := by
  have hnm := rname_any s w (by omega)
  rw [hok] at hnm
  have hb1 : Below w.heap.size w (w.alloc (.cells #[nmV s, .slice none 0 0, .int .i64 0] 67)) := (Below.refl _ _).alloc (Nat.le_refl _) _
  have hx1 : Bk (w.alloc (.cells #[nmV s, .slice none 0 0, .int .i64 0] 67)) w.heap.size 67 [nmV s, .slice none 0 0, .int .i64 0] := Bk.new w _ _
  have hp := place_in (h.below hb1) e hs
  have hfe : fd (P.map RF.fe) s = some f.fe := by rw [← hs]; exact fd_mem h.srt.dis (List.mem_of_getElem? (fe_at e))
  have hmm := List.mem_of_getElem? e
  have hfl := (h.len f hmm).2.1
  have hf8 := (h.len f hmm).1
  obtain ⟨g, c', rfl, _, _, _, _⟩ := h.at_ e
  have hpl : plc (P.map RF.fe) s < P.length := (List.getElem?_eq_some_iff.1 e).1
  have H0 := Lib.hid h
  have HO : Hid (oldF (P.map RF.fe) s = f.l ∧ oldN (P.map RF.fe) s = f.n) := Lib.hid (by unfold oldF oldN; rw [hfe]; exact ⟨rfl, rfl⟩)
  have HE := Lib.hid e
  have HS0 := Lib.hid hs
  have hmax := Nat.le_trans h.few h.nn
  clear h e hfe hs
  unfold nmV at *
  go_enter Tryz.func35, Tryz.ntmps35
  go_wp2_with fail
  (with_reducible refine hnm.mono ?_)
  rintro _ _ ⟨rfl, rfl⟩
  clear hnm
  go_wp2_with fail
  (with_reducible refine hp.mono ?_)
  rintro _ _ ⟨rfl, q, rfl⟩
  clear hp
  have hbw : Below w.heap.size w ((w.alloc (.cells #[.string ⟨s.toArray⟩, .slice none 0 0, .int .i64 0] 67)).drewN q) := hb1.trans ((below_drewN (Below.refl _ _) q).mono hb1.size)
  have hx : Bk ((w.alloc (.cells #[.string ⟨s.toArray⟩, .slice none 0 0, .int .i64 0] 67)).drewN q) w.heap.size 67 [nmV s, .slice none 0 0, .int .i64 0] := hx1
  clear hb1 hx1
  generalize (w.alloc (.cells #[.string ⟨s.toArray⟩, .slice none 0 0, .int .i64 0] 67)).drewN q = W0 at *
  have h1 := H0.out.below hbw
  have g0 := h1.c0
  obtain ⟨e0, e1, e2⟩ := h1.cs HE.out
  have x0 := hx.cell 0
  have x1 := hx.cell 1
  have x2 := hx.cell 2
  have y0 := hx.frozen 0
  have y1 := hx.frozen 1
  have y2 := hx.frozen 2
  simp only [List.getElem?_cons_zero, List.getElem?_cons_succ] at x0 x1 x2
  rw [HS0.out] at e0
  unfold nmV at e0 x0
  unfold RF.dv at e1
  have hx7 := ((hx.set 0 (nmV s)).set 1 (.slice f.A f.l.length f.c)).set 2 (.int .i64 f.n)
  simp only [List.set_cons_zero, List.set_cons_succ] at hx7
  have hbw7 : Below w.heap.size w (((W0.setCell ⟨w.heap.size, 0, none⟩ (nmV s)).setCell ⟨w.heap.size, 1, none⟩ (.slice f.A f.l.length f.c)).setCell ⟨w.heap.size, 2, none⟩ (.int .i64 f.n)) := ((hbw.setCell (p := ⟨w.heap.size, 0, none⟩) (Nat.le_refl _) _).setCell (p := ⟨w.heap.size, 1, none⟩) (Nat.le_refl _) _).setCell (p := ⟨w.heap.size, 2, none⟩) (Nat.le_refl _) _
  have c70 := hx7.cell 0
  have c71 := hx7.cell 1
  have c72 := hx7.cell 2
  simp only [List.getElem?_cons_zero, List.getElem?_cons_succ] at c70 c71 c72
  unfold nmV at hx7 hbw7 c70 c71 c72
  clear hx hbw h1
  have H := Lib.hid (H0.out.below hbw7)
  have hod := H.out.dat f hmm
  have hbw := hbw7
  have hx := hx7
  clear hbw7 hx7 c70 c71 c72
  have c0 := hx.cell 0
  have c1 := hx.cell 1
  have c2 := hx.cell 2
  have z1 := hx.frozen 1
  simp only [List.getElem?_cons_zero, List.getElem?_cons_succ] at c0 c1 c2
  have hmax : P.length ≤ 1000000 := Nat.le_trans H.out.few H.out.nn
  have hus : usedF (P.map RF.fe) ≤ 8388608000000 := by
    have := H.out.used_le P.length
    rw [List.take_of_length_le (by simp)] at this
    omega
  have hE : Hid (appE room (P.map RF.fe) s l = if 8388608 < f.l.length + l.length then 3 else if room < usedF (P.map RF.fe) + l.length then 5 else 0) := Lib.hid (by
    unfold appE
    rw [hok, HO.out.1]
    rfl)
  have hL : Hid (appL room (P.map RF.fe) s l = if appE room (P.map RF.fe) s l = 0 then putF (P.map RF.fe) ⟨s, f.l ++ l, f.n⟩ else P.map RF.fe) := Lib.hid (by
    unfold appL
    rw [HO.out.1, HO.out.2])
  have HS := Lib.hid (RDid.same H.out hbw (Nat.le_succ n) hn)
  by_cases hlong : 8388608 < f.l.length + l.length
  · have d1 : decide ((8388608 : Int) < ((f.l.length : Int) + (l.length : Int))) = true := decide_eq_true (by omega)
    have HE2 : Hid (appE room (P.map RF.fe) s l = 3) := Lib.hid (by rw [hE.out, if_pos hlong])
    clear hlong
    go_wp2_with fail
    go_ret
    exact ⟨by rw [HE2.out]; rfl, by rw [hL.out, HE2.out]; exact HS.out⟩
  have d1 : decide ((8388608 : Int) < ((f.l.length : Int) + (l.length : Int))) = false := decide_eq_false (by omega)
  go_wp2_with fail
  refine wp_region_still_lit (by kernel_rfl) (by kernel_rfl) ?_
  change wpStill _ _ (((W0.setCell ⟨w.heap.size, 0, none⟩ (.string ⟨s.toArray⟩)).setCell ⟨w.heap.size, 1, none⟩ (.slice f.A f.l.length f.c)).setCell ⟨w.heap.size, 2, none⟩ (.int .i64 f.n)).drew (fun a' => (_ : Exit → Act → World → Prop) .normal a' (((W0.setCell ⟨w.heap.size, 0, none⟩ (.string ⟨s.toArray⟩)).setCell ⟨w.heap.size, 1, none⟩ (.slice f.A f.l.length f.c)).setCell ⟨w.heap.size, 2, none⟩ (.int .i64 f.n)).drew) _ _
  have H2 := Lib.hid (H.out.below (Below.refl _ _).drew)
  have HB2 := Lib.hid hbw.drew
  have hx2 : Bk (((W0.setCell ⟨w.heap.size, 0, none⟩ (.string ⟨s.toArray⟩)).setCell ⟨w.heap.size, 1, none⟩ (.slice f.A f.l.length f.c)).setCell ⟨w.heap.size, 2, none⟩ (.int .i64 f.n)).drew w.heap.size 67 [nmV s, .slice f.A f.l.length f.c, .int .i64 f.n] := hx
  have HD2 := Lib.hid (hod.keep (w' := (((W0.setCell ⟨w.heap.size, 0, none⟩ (.string ⟨s.toArray⟩)).setCell ⟨w.heap.size, 1, none⟩ (.slice f.A f.l.length f.c)).setCell ⟨w.heap.size, 2, none⟩ (.int .i64 f.n)).drew) (K' := B) (fun _ _ _ => rfl) (Nat.le_refl _) (fun b q _ => q))
  clear H hbw hx hod c0 c1 c2 z1
  generalize (((W0.setCell ⟨w.heap.size, 0, none⟩ (.string ⟨s.toArray⟩)).setCell ⟨w.heap.size, 1, none⟩ (.slice f.A f.l.length f.c)).setCell ⟨w.heap.size, 2, none⟩ (.int .i64 f.n)).drew = WD at *
  have cr := H2.out.c1
  have c1 := hx2.cell 1
  have c0 := hx2.cell 0
  have c2 := hx2.cell 2
  have z1 := hx2.frozen 1
  simp only [List.getElem?_cons_zero, List.getElem?_cons_succ] at c0 c1 c2
  by_cases hfull : room < (usedF (P.map RF.fe) : Int) + (l.length : Int)
  · have d2 : decide (room < (usedF (P.map RF.fe) : Int) + (l.length : Int)) = true := decide_eq_true hfull
    have HE2 : Hid (appE room (P.map RF.fe) s l = 5) := Lib.hid (by rw [hE.out, if_neg hlong, if_pos hfull])
    clear hlong hfull
    have hw := IntWalk.i64_in ((usedF (P.map RF.fe) : Int) + (l.length : Int)) (by omega)
    repeat still_step
    still_call (rused_any H2.out)
    repeat still_step
    refine wpStill_nil ?_
    clear hw
    go_wp2_with fail
    go_ret
    exact ⟨by rw [HE2.out]; rfl, by rw [hL.out, HE2.out]; exact (RDid.same H2.out HB2.out (Nat.le_succ n) hn)⟩
  have d2 : decide (room < (usedF (P.map RF.fe) : Int) + (l.length : Int)) = false := decide_eq_false hfull
  have HE2 : Hid (appE room (P.map RF.fe) s l = 0) := Lib.hid (by rw [hE.out, if_neg hlong, if_neg hfull])
  have HLL : Hid (f.l.length + l.length ≤ 8388608) := Lib.hid (by omega)
  clear hfull hlong
  have hw := IntWalk.i64_in ((usedF (P.map RF.fe) : Int) + (l.length : Int)) (by omega)
  repeat still_step
  still_call (rused_any H2.out)
  repeat still_step
  refine wpStill_nil ?_
  clear hw
  obtain ⟨i0, hi, hz0, hz1, hz2⟩ := info_parts infoU8
  obtain ⟨LL, hLE⟩ : ∃ LL, Hid (LL = f.l ++ l) := ⟨_, Lib.hid rfl⟩
  have hlL : LL.length ≤ 8388608 := by rw [hLE.out, List.length_append]; exact HLL.out
  have hoL : f.l.length ≤ 8388608 := by have := HLL.out; omega
  have hb3 : Below WD.heap.size WD (WD.alloc (.cells #[] 5)) := (Below.refl _ _).alloc (Nat.le_refl _) _
  have hown := owns_new0 WD WD.heap.size 5 1 (Nat.le_refl _)
  have hx3 := hx2.below hb3 hx2.lt
  have hrd := (HD2.out.below hb3).rd.1
  have d0 := hx3.cell 0
  have d1' := hx3.cell 1
  simp only [List.getElem?_cons_zero, List.getElem?_cons_succ] at d0 d1'
  have HX := Lib.hid hx2
  have hNl : w.heap.size < WD.heap.size := hx2.lt
  clear c0 c1 c2 z1 cr hx2 hx3 hus
  go_wp2_with (first
    | (at_builtin; refine wpList_append_ownA (by rfl) (.tmp 46) (.tmp 48) 29 (by rfl) WD.heap.size 5 i0 _ 1 1 Tryz.underlying29 hi hz0 hz1 hz2 rfl (by decide) _ 0 [] (by rfl) hown f.A f.l.length f.c (u8s f.l) (by rfl) (by simp) (fun e => by have := hrd.nonone e; rwa [u8s_len] at this) hrd.cells (u8s_one f.l) (by unfold maxLen; omega) (by omega) (by simp) ?_; intro v4 W4 hr4 hg4; rw [Nat.zero_add, List.nil_append] at hr4; have hb4 : Below WD.heap.size WD W4 := hb3.trans (grown_below hg4 (fun g e => Nat.le_of_eq (Option.some.inj e)) (by simp)); have hrA := hr.keep (w' := W4) (K' := K) (fun b q => (hb4.block b (Nat.lt_of_lt_of_le (hK b q) HB2.out.size)).trans (HB2.out.block b (hK b q))) (fun _ q => q); have hown4 := fun g e => (owns_block hr4 g e).1; clear hg4 hb3 hown hrd d0 d1')
    | (at_builtin; refine wpList_append_ownA (by rfl) (.tmp 49) (.tmp 50) 29 (by rfl) WD.heap.size 5 i0 _ 1 1 Tryz.underlying29 hi hz0 hz1 hz2 rfl (by decide) _ f.l.length (u8s f.l) (by rfl) hr4 A l.length c (u8s l) (by rfl) (by simp) (fun e => by have := hrA.nonone e; rwa [u8s_len] at this) hrA.cells (u8s_one l) (by unfold maxLen; omega) (by omega) hb4.size ?_; intro v5 W5 hr5 hg5; rw [← u8s_app, ← List.length_append, ← hLE.out] at hr5; have hb5 : Below WD.heap.size WD W5 := hb4.trans (grown_below hg5 hown4 hb4.size); obtain ⟨A5, c5, rfl, hd5⟩ := own_dat hr5; have hx5 := HX.out.below hb5 hNl; have f0 := hx5.cell 0; have f1 := hx5.cell 1; have f2 := hx5.cell 2; have y1 := hx5.frozen 1; simp only [List.getElem?_cons_zero, List.getElem?_cons_succ] at f0 f1 f2; unfold nmV at f0; clear hg5 hr5 hb4 hrA hown4 hr4))
  have hfar : ∀ k, k ≠ w.heap.size → (W5.setCell ⟨w.heap.size, 1, none⟩ (.slice A5 LL.length c5)).heap[k]? = W5.heap[k]? := fun k hk => Below.heap_setCell _ _ _ k hk
  have hx6 := hx5.set 1 (.slice A5 LL.length c5)
  have hs6 : (W5.setCell ⟨w.heap.size, 1, none⟩ (.slice A5 LL.length c5)).heap.size = W5.heap.size := by simp [World.setCell]
  have hb6 : Below w.heap.size w (W5.setCell ⟨w.heap.size, 1, none⟩ (.slice A5 LL.length c5)) := (HB2.out.trans (hb5.mono HB2.out.size)).setCell (p := ⟨w.heap.size, 1, none⟩) (Nat.le_refl _) _
  have hs5 := hb5.size
  have h6 := (H0.out.below hb6).wide (B' := fun j => B j ∨ (w.heap.size ≤ j ∧ j < W5.heap.size)) (fun _ q => .inl q) (fun j q => by
    rw [hs6]
    rcases q with q | q
    · have := H0.out.lt j q
      have := HB2.out.size
      omega
    · exact q.2)
  have hd6 : Dat (W5.setCell ⟨w.heap.size, 1, none⟩ (.slice A5 LL.length c5)) (fun j => B j ∨ (w.heap.size ≤ j ∧ j < W5.heap.size)) A5 c5 LL := hd5.keep (fun b q _ => hfar b (by omega)) (by rw [hs6]; exact Nat.le_refl _) (fun b q hl => .inr ⟨by omega, hl⟩)
  have hsx := hx6.cell 0
  have hsy := hx6.cell 1
  have hsz := hx6.cell 2
  simp only [List.getElem?_cons_zero, List.getElem?_cons_succ, List.set_cons_zero, List.set_cons_succ] at hsx hsy hsz
  have HB6 := Lib.hid hb6
  unfold nmV at hsx
  have hput := rput_in h6 (f' := ⟨s, A5, c5, LL, f.n⟩) HE.out HS0.out ⟨hlL, by show f.n ≤ LL.length; rw [hLE.out, List.length_append]; omega⟩ hd6
  unfold RF.agg RF.dv nmV at hput
  dsimp only at hput
  try rw [show ((0 : Nat) : Int) = 0 from rfl] at hput
  clear hx5 hx6 h6 hd6 hb6 hfar hs6 hd5 HX hE
  generalize W5.setCell ⟨w.heap.size, 1, none⟩ (.slice A5 LL.length c5) = W6 at *
  (with_reducible refine hput.mono ?_)
  rintro _ W7 ⟨rfl, hfin⟩
  have HF := Lib.hid hfin
  clear hput hfin
  go_wp2_with fail
  go_ret
  refine ⟨by rw [HE2.out]; rfl, ?_⟩
  rw [hL.out, if_pos HE2.out, ← hLE.out]
  exact (HF.out.more (Nat.le_succ n) hn).wide HB6.out (fun j q => q.imp id (fun q => q.1))
end
end Go.Proofs.YtcmbeolicopicaaGreat

