/- disk: the document's Rename. -/
import Derived.Test.YtcmbeolicopicaaGreatE12
import Derived.Test.YtcmbeolicopicaaGreatZ5
namespace Go.Proofs.YtcmbeolicopicaaGreat
open Go.RowKit Go.Maps Go.ChangeMaps
set_option linter.unusedVariables false
set_option linter.unusedSectionVars false
set_option linter.unusedSimpArgs false
set_option maxRecDepth 100000

theorem fd_file {P : List RF} {L : List FE} (hL : P.map RF.fe = L) (hs : Srt L) {s : Nm} {g : FE} (e : fd L s = some g) : ∃ f, P[plc (P.map RF.fe) s]? = some f ∧ f.fe = g ∧ f.s = s := by
  subst hL
  have h1 := fd_at hs e
  rw [List.getElem?_map, Option.map_eq_some_iff] at h1
  obtain ⟨f, hf, rfl⟩ := h1
  exact ⟨f, hf, rfl, (fd_some e).2⟩
section
variable {B : Nat → Prop} {X n : Nat} {room : Int} {P : List RF} {v : Value} {w : World} (h : RD B X room P n v w)
include h
theorem rput_any {f' : RF} (hl : f'.l.length ≤ 8388608 ∧ f'.n ≤ f'.l.length ∧ f'.s.length ≤ 24) (hd : Dat w B f'.A f'.c f'.l) (hn : n + 1 ≤ 1000000) : Calls Tryz.prog 58 #[.pointer (some ⟨X, 0, none⟩), f'.agg] w fun e w' => e = .returned (.tuple #[]) ∧ RDid B X room (putF (P.map RF.fe) f'.fe) (n + 1) w w' := by
  cases e : fd (P.map RF.fe) f'.s with
  | none => exact rput_out h e hl hd hn
  | some g =>
    obtain ⟨f, hf, _, hs⟩ := fd_file rfl h.srt e
    exact (rput_in h hf hs ⟨hl.1, hl.2.1⟩ hd).mono fun e w' q => ⟨q.1, q.2.more (Nat.le_succ n) hn⟩
set_option maxHeartbeats 1000000 in
theorem rrename_no (s t : Nm) (hs : s.length ≤ 1000000) (ht : t.length ≤ 1000000) (hok : (okN s && okN t) = false) : Calls Tryz.prog 30 #[.pointer (some ⟨X, 0, none⟩), nmV s, nmV t] w fun e w' => e = .returned (.int .i64 2) ∧ w' = w := by
  have h1 := rname_any s w hs
  have h2 := rname_any t w ht
  clear h
  unfold nmV at *
  by_cases q : okN s = true
  · rw [q, Bool.true_and] at hok
    rw [q] at h1
    rw [hok] at h2
    clear q hok
    go_enter Tryz.func30, Tryz.ntmps30
    go_wp2_with fail
    (with_reducible refine h1.mono ?_)
    rintro _ _ ⟨rfl, rfl⟩
    clear h1
    go_wp2_with fail
    (with_reducible refine h2.mono ?_)
    rintro _ _ ⟨rfl, rfl⟩
    clear h2
    go_wp2_with fail
    go_ret
    exact ⟨rfl, rfl⟩
  · have q : okN s = false := by simpa using q
    rw [q] at h1
    clear q hok h2
    go_enter Tryz.func30, Tryz.ntmps30
    go_wp2_with fail
    (with_reducible refine h1.mono ?_)
    rintro _ _ ⟨rfl, rfl⟩
    clear h1
    go_wp2_with fail
    go_ret
    exact ⟨rfl, rfl⟩
set_option maxHeartbeats 1000000 in
theorem rrename_out (s t : Nm) (hs : s.length ≤ 1000000) (ht : t.length ≤ 1000000) (hok : okN s = true) (hok2 : okN t = true) (e : fd (P.map RF.fe) s = none) : Calls Tryz.prog 30 #[.pointer (some ⟨X, 0, none⟩), nmV s, nmV t] w fun e w' => e = .returned (.int .i64 6) ∧ ∃ q, w' = w.drewN q := by
  have h1 := rname_any s w hs
  have h2 := rname_any t w ht
  have hp := place_out h e
  rw [hok] at h1
  rw [hok2] at h2
  clear h e hok hok2
  unfold nmV at *
  go_enter Tryz.func30, Tryz.ntmps30
  go_wp2_with fail
  (with_reducible refine h1.mono ?_)
  rintro _ _ ⟨rfl, rfl⟩
  clear h1
  go_wp2_with fail
  (with_reducible refine h2.mono ?_)
  rintro _ _ ⟨rfl, rfl⟩
  clear h2
  go_wp2_with fail
  (with_reducible refine hp.mono ?_)
  rintro _ _ ⟨rfl, q, rfl⟩
  clear hp
  go_wp2_with fail
  go_ret
  exact ⟨rfl, _, rfl⟩
set_option maxHeartbeats 2000000 in
theorem rrename_in (s t : Nm) (hs : s.length ≤ 1000000) (ht : t.length ≤ 24) (hok : okN s = true) (hok2 : okN t = true) {f : RF} (e : P[plc (P.map RF.fe) s]? = some f) (hfs : f.s = s) (hn : n + 1 ≤ 1000000) : Calls Tryz.prog 30 #[.pointer (some ⟨X, 0, none⟩), nmV s, nmV t] w fun e w' => e = .returned (.int .i64 0) ∧ RDid B X room (putF (delF (P.map RF.fe) s) ⟨t, f.l, f.n⟩) (n + 1) w w' := by
  have h1 := rname_any s w hs
  have h2 := rname_any t w (by omega)
  have hp := place_in h e hfs
  have hpl : plc (P.map RF.fe) s < P.length := (List.getElem?_eq_some_iff.1 e).1
  have hmax : P.length ≤ 1000000 := Nat.le_trans h.few h.nn
  rw [hok] at h1
  rw [hok2] at h2
  have hfl := h.len f (List.mem_of_getElem? e)
  obtain ⟨g, c, rfl, _, _, _, _⟩ := h.at_ e
  have H := Lib.hid h
  have HE := Lib.hid e
  have HS0 := Lib.hid hfs
  clear h e hok hok2 hfs
  unfold nmV at *
  go_enter Tryz.func30, Tryz.ntmps30
  go_wp2_with fail
  (with_reducible refine h1.mono ?_)
  rintro _ _ ⟨rfl, rfl⟩
  clear h1
  go_wp2_with fail
  (with_reducible refine h2.mono ?_)
  rintro _ _ ⟨rfl, rfl⟩
  clear h2
  go_wp2_with fail
  (with_reducible refine hp.mono ?_)
  rintro _ W ⟨rfl, q, hW⟩
  have hb1 : Below w.heap.size w W := by rw [hW]; exact below_drewN (Below.refl _ _) q
  clear hW hp
  have h1 := H.out.below hb1
  have cX := h1.c0
  obtain ⟨e0, e1, e2⟩ := h1.cs HE.out
  rw [HS0.out] at e0
  unfold nmV at e0
  unfold RF.dv at e1
  clear h1
  generalize hii : plc (P.map RF.fe) s = i at *
  have hb2 : Below w.heap.size w (W.alloc (.cells #[.string ⟨s.toArray⟩, .slice f.A f.l.length f.c, .int .i64 f.n] 67)) := hb1.alloc hb1.size _
  have hx2 : Bk (W.alloc (.cells #[.string ⟨s.toArray⟩, .slice f.A f.l.length f.c, .int .i64 f.n] 67)) W.heap.size 67 [.string ⟨s.toArray⟩, .slice f.A f.l.length f.c, .int .i64 f.n] := Bk.new W _ _
  have hrm := rremove_x (H.out.below hb2) s (by rw [hii]; exact HE.out) HS0.out
  unfold nmV at hrm
  have HI := Lib.hid hii
  have hsw := hb1.size
  clear hii
  go_wp2_with fail
  generalize (W.alloc (.cells #[.string ⟨s.toArray⟩, .slice f.A f.l.length f.c, .int .i64 f.n] 67)) = W2 at *
  (with_reducible refine hrm.mono ?_)
  rintro _ W3 ⟨rfl, ⟨P3, v3, h3, hP3⟩, hfar, hlv⟩
  clear hrm
  have hx2l := hx2.lt
  have hXl := H.out.lt X H.out.hX
  have hx3 : Bk W3 W.heap.size 67 [.string ⟨s.toArray⟩, .slice f.A f.l.length f.c, .int .i64 f.n] := (hfar _ hx2l (by omega)).trans hx2
  have hbX : Bk W2 X 53 _ := (H.out.below hb2).bk
  have hd3 : Dat W3 (fun k => (B k ∨ W2.heap.size ≤ k) ∧ k < W3.heap.size) f.A f.c f.l := ((H.out.below hb2).dat f (List.mem_of_getElem? HE.out)).narrow.keep (fun b q hl => hfar b hl (ub_ne q.2 hbX (by decide))) hlv.size (fun b q hl => ⟨.inl q.1, Nat.lt_of_lt_of_le hl hlv.size⟩)
  have hput := rput_any h3 (f' := ⟨t, f.A, f.c, f.l, f.n⟩) ⟨hfl.1, hfl.2.1, ht⟩ hd3 hn
  rw [hP3] at hput
  unfold RF.agg RF.dv nmV at hput
  have c0 := hx3.cell 0
  have c1 := hx3.cell 1
  have c2 := hx3.cell 2
  simp only [List.getElem?_cons_zero, List.getElem?_cons_succ] at c0 c1 c2
  have HB2 := Lib.hid hb2
  have HLV := Lib.hid hlv
  clear hx3 hbX hd3 h3 hP3 hfar hlv hb2 hx2 hb1 cX e0 e1 e2
  dsimp only at hput
  go_wp2_with fail
  (with_reducible refine hput.mono ?_)
  rintro _ W4 ⟨rfl, hfin⟩
  have HF := Lib.hid hfin
  clear hput hfin
  go_wp2_with fail
  go_ret
  refine ⟨rfl, ?_⟩
  obtain ⟨B4, q1, q2, q3⟩ := HF.out
  refine ⟨B4, fun j q => ?_, q2, ((Below.lv HB2.out).trans HLV.out (fun j q => .inl q)).trans q3 (fun j q => ?_)⟩
  · rcases q1 j q with q | q
    · exact q.1.imp id (fun q => Nat.le_trans HB2.out.size q)
    · exact .inr (Nat.le_trans HB2.out.size (Nat.le_trans HLV.out.size q))
  · exact q.1.imp id (fun q => Nat.le_trans HB2.out.size q)
theorem rrename_any (s t : Nm) (hs : s.length ≤ 1000000) (ht : t.length ≤ 1000000) (hn : n + 1 ≤ 1000000) : Calls Tryz.prog 30 #[.pointer (some ⟨X, 0, none⟩), nmV s, nmV t] w fun e w' => e = .returned (.int .i64 (renE (P.map RF.fe) s t)) ∧ RDid B X room (renL (P.map RF.fe) s t) (n + 1) w w' := by
  by_cases hok : (okN s && okN t) = true
  · have hok2 := hok
    rw [Bool.and_eq_true] at hok
    cases e : fd (P.map RF.fe) s with
    | none =>
      have hE : renE (P.map RF.fe) s t = 6 := by unfold renE; rw [hok2, e]; rfl
      have hL : renL (P.map RF.fe) s t = P.map RF.fe := by unfold renL; rw [hok2, e]
      rw [hE, hL]
      refine (rrename_out h s t hs ht hok.1 hok.2 e).mono ?_
      rintro x w' ⟨q1, q, rfl⟩
      have hb := below_drewN (Below.refl w.heap.size w) q
      exact ⟨q1, RDid.same (h.below hb) hb (Nat.le_succ n) hn⟩
    | some g =>
      obtain ⟨f, hf, rfl, hfs⟩ := fd_file rfl h.srt e
      have hE : renE (P.map RF.fe) s t = 0 := by unfold renE; rw [hok2, e]; rfl
      have hL : renL (P.map RF.fe) s t = putF (delF (P.map RF.fe) s) ⟨t, f.l, f.n⟩ := by unfold renL; rw [hok2, e]; rfl
      rw [hE, hL]
      have ht24 : t.length ≤ 24 := by
        have := hok.2
        unfold okN at this
        rw [Bool.and_eq_true] at this
        exact (of_decide_eq_true this.1).2
      exact rrename_in h s t hs ht24 hok.1 hok.2 hf hfs hn
  · have hok : (okN s && okN t) = false := by simpa using hok
    have hE : renE (P.map RF.fe) s t = 2 := by unfold renE; rw [hok]; rfl
    have hL : renL (P.map RF.fe) s t = P.map RF.fe := by unfold renL; rw [hok]
    rw [hE, hL]
    refine (rrename_no h s t hs ht hok).mono ?_
    rintro x w' ⟨q1, rfl⟩
    exact ⟨q1, RDid.same h (Below.refl _ _) (Nat.le_succ n) hn⟩
end
end Go.Proofs.YtcmbeolicopicaaGreat

