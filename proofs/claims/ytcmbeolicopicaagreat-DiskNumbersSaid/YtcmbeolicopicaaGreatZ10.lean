/- disk: the document's disk turned in place; Sync. disk: the document's Sync, put. disk: the document's put, at a file that is. -/
import Derived.Test.YtcmbeolicopicaaGreatE4
import Derived.StillTailTactics
namespace Go.Proofs.YtcmbeolicopicaaGreat
open Go.RowKit Go.Maps Go.ChangeMaps
set_option linter.unusedVariables false
set_option linter.unusedSectionVars false
set_option linter.unusedSimpArgs false
set_option maxRecDepth 100000

/-- A block of bytes. -/
def UB (w : World) (b : Nat) : Prop := ∃ cs ow, w.heap[b]? = some (.cells cs 5 ow)
theorem Dat.narrow {w : World} {K : Nat → Prop} {A : Option Addr} {c : Nat} {l : List Int} (h : Dat w K A c l) : Dat w (fun b => K b ∧ UB w b) A c l := by
  obtain ⟨b, h1, h2⟩ := h
  refine ⟨b, h1, fun e => ⟨⟨(h2 e).1, ?_⟩, (h2 e).2⟩⟩
  rcases h1.2 with ⟨q, _⟩ | ⟨cap, cur, _, hg, _⟩
  · rw [q] at e; cases e
  · exact ⟨_, _, hg⟩
theorem ub_ne {w : World} {b g : Nat} {e : TypeId} {cs : Array Value} {ow : Nat × Nat} (h : UB w b) (hg : w.heap[g]? = some (.cells cs e ow)) (he : e ≠ 5) : b ≠ g := by
  rintro rfl
  obtain ⟨cs', ow', hb⟩ := h
  rw [hb] at hg
  injection hg with hg
  injection hg with _ hg
  exact he hg.symm
theorem set3 {xs : List Value} {i : Nat} (h : i + 3 ≤ xs.length) (a b c : Value) : ((xs.set i a).set (i + 1) b).set (i + 2) c = xs.take i ++ [a, b, c] ++ xs.drop (i + 3) := by
  refine List.ext_getElem? fun j => ?_
  rw [List.getElem?_set, List.getElem?_set, List.getElem?_set]
  simp only [List.length_set]
  by_cases h2 : i + 2 = j
  · subst h2
    rw [if_pos rfl, if_pos (by omega), List.append_assoc, List.getElem?_append_right (by simp; omega), List.length_take_of_le (by omega), show i + 2 - i = 2 by omega]
    rfl
  rw [if_neg h2]
  by_cases h1 : i + 1 = j
  · subst h1
    rw [if_pos rfl, if_pos (by omega), List.append_assoc, List.getElem?_append_right (by simp; omega), List.length_take_of_le (by omega), show i + 1 - i = 1 by omega]
    rfl
  rw [if_neg h1]
  by_cases h0 : i = j
  · subst h0
    rw [if_pos rfl, if_pos (by omega), List.append_assoc, List.getElem?_append_right (by simp; omega), List.length_take_of_le (by omega), Nat.sub_self]
    rfl
  rw [if_neg h0, List.append_assoc]
  rcases Nat.lt_or_ge j i with hj | hj
  · rw [List.getElem?_append_left (by simp; omega), List.getElem?_take, if_pos hj]
  · rw [List.getElem?_append_right (by simp; omega), List.length_take_of_le (by omega), List.getElem?_append_right (by simp; omega), List.getElem?_drop]
    congr 1
    simp
    omega
theorem rfV_set3 {P : List RF} {i : Nat} (h : i < P.length) (f : RF) : (((rfV P).set (i * 3) (nmV f.s)).set (i * 3 + 1) f.dv).set (i * 3 + 2) (.int .i64 f.n) = rfV (P.set i f) := by
  have hl := rfV_len P
  rw [set3 (by rw [hl]; omega), rfV_set h]
  simp only [RF.cs]
  rw [show (i + 1) * 3 = i * 3 + 3 by omega]
theorem rfV_setN {P : List RF} {i : Nat} {f : RF} (h : P[i]? = some f) (k : Nat) : (rfV P).set (i * 3 + 2) (.int .i64 k) = rfV (P.set i ⟨f.s, f.A, f.c, f.l, k⟩) := by
  have hlt := (List.getElem?_eq_some_iff.1 h).1
  have hl := rfV_len P
  rw [← rfV_set3 hlt]
  have e0 : (rfV P).set (i * 3) (nmV f.s) = rfV P := by
    have := (List.getElem?_eq_some_iff.1 ((rfV_at h (j := 0) (by omega)).trans rfl)).2
    simp only [Nat.add_zero] at this
    conv => lhs; rw [← this]
    exact List.set_getElem_self _
  have e1 : (rfV P).set (i * 3 + 1) f.dv = rfV P := by
    have := (List.getElem?_eq_some_iff.1 ((rfV_at h (j := 1) (by omega)).trans rfl)).2
    conv => lhs; rw [← this]
    exact List.set_getElem_self _
  rw [show (RF.mk f.s f.A f.c f.l k).s = f.s from rfl, show (RF.mk f.s f.A f.c f.l k).dv = f.dv from rfl, e0, e1]
theorem owns_set {w : World} {base e size n c g : Nat} {xs : List Value} (h : w.ownsRow base e size (.slice (some ⟨g, 0, none⟩) n c) n xs) {j : Nat} (u : Value) (hj : j < xs.length) : (w.setCell ⟨g, j, none⟩ u).ownsRow base e size (.slice (some ⟨g, 0, none⟩) n c) n (xs.set j u) := by
  refine ⟨by rw [List.length_set]; exact h.1, ?_⟩
  rcases h.2 with ⟨h', _⟩ | ⟨g', cap, cur, h', hb, hg, h1, h2, h3, h4⟩
  · cases h'
  · injection h' with e1 _ e3
    injection e1 with e1
    injection e1 with e1
    subst e1 e3
    refine .inr ⟨g, c, cur.setIfInBounds j u, rfl, hb, heap_setCell_same _ _ _ _ _ _ hg, h1, h2, by simpa using h3, ?_⟩
    rw [Array.toList_setIfInBounds, List.take_set, h4]
/-- What becomes of the disk when a file is turned in place. -/
theorem RD.turn {B : Nat → Prop} {X n g c : Nat} {room : Int} {P : List RF} {w W' : World} (h : RD B X room P n (.slice (some ⟨g, 0, none⟩) P.length c) w) {i : Nat} {f f' : RF} (hi : P[i]? = some f) (hs : f'.s = f.s) (hl : f'.l.length ≤ 8388608 ∧ f'.n ≤ f'.l.length)
    (hrow : W'.ownsRow 0 67 3 (.slice (some ⟨g, 0, none⟩) P.length c) P.length (rfV (P.set i f'))) (hdat : Dat W' (fun b => B b ∨ w.heap.size ≤ b) f'.A f'.c f'.l)
    (hfar : ∀ k, k < w.heap.size → k ≠ g → W'.heap[k]? = w.heap[k]?) (hsz : w.heap.size ≤ W'.heap.size) (ho : W'.os = w.os ∧ W'.tape = w.tape ∧ W'.output = w.output) : RDid B X room (putF (P.map RF.fe) f'.fe) n w W' := by
  have hlt := (List.getElem?_eq_some_iff.1 hi).1
  have hfd : fd (P.map RF.fe) f'.s = some f.fe := by rw [hs]; exact fd_mem h.srt.dis (List.mem_of_getElem? (fe_at hi))
  have hpl : plc (P.map RF.fe) f'.s = i := by
    have h1 := fd_at h.srt hfd
    have h2 := fe_at hi
    obtain ⟨l1, l2⟩ := List.getElem?_eq_some_iff.1 h1
    obtain ⟨l3, l4⟩ := List.getElem?_eq_some_iff.1 h2
    have hp := List.pairwise_iff_getElem.1 h.srt
    rcases Nat.lt_trichotomy (plc (P.map RF.fe) f'.s) i with q | q | q
    · have := hp _ _ l1 l3 q
      rw [l2, l4] at this
      exact absurd this (nm_irr _)
    · exact q
    · have := hp _ _ l3 l1 q
      rw [l2, l4] at this
      exact absurd this (nm_irr _)
  have hput : putF (P.map RF.fe) f'.fe = (P.set i f').map RF.fe := by
    rw [putF_set h.srt (f := f'.fe) hfd, show f'.fe.s = f'.s from rfl, hpl, List.map_set]
  obtain ⟨cur, hg⟩ : ∃ cur, w.heap[g]? = some (.cells cur 67 (0, 0)) := by
    rcases h.row.2 with ⟨q, _⟩ | ⟨g', cap, cur, q, _, hg, _⟩
    · cases q
    · injection q with q; injection q with q; injection q with q; subst q; exact ⟨cur, hg⟩
  have hXg : X ≠ g := by
    rintro rfl
    have := h.bk
    unfold Bk at this
    rw [hg] at this
    injection this with this
    injection this with _ this
    exact absurd this (by decide)
  have hBg := h.own g rfl
  refine ⟨fun k => (B k ∨ w.heap.size ≤ k) ∧ k < W'.heap.size, fun k q => q.1, ⟨P.set i f', .slice (some ⟨g, 0, none⟩) P.length c, ⟨?_, ?_, fun k e => ?_, ⟨.inl h.hX, Nat.lt_of_lt_of_le (h.lt X h.hX) hsz⟩, fun k q => q.2, fun x hx => ?_, ?_, fun x hx => ?_, by rw [List.length_set]; exact h.few, h.nn⟩, hput.symm⟩, ⟨ho.1, ho.2.1, ho.2.2, hsz, fun k k1 k2 => hfar k k1 (fun e => k2 (e ▸ hBg))⟩⟩
  · exact (hfar X (h.lt X h.hX) hXg).trans h.bk
  · rw [List.length_set]; exact hrow
  · have e := Option.some.inj e
    subst e
    exact ⟨.inl hBg, Nat.lt_of_lt_of_le (h.lt _ hBg) hsz⟩
  · rcases List.mem_or_eq_of_mem_set hx with hx | rfl
    · refine (h.dat x hx).narrow.keep (fun b q hb => hfar b hb (ub_ne q.2 hg (by decide))) hsz (fun b q hb => ⟨.inl q.1, by omega⟩)
    · obtain ⟨b, d1, d2⟩ := hdat
      exact ⟨b, d1, fun e => ⟨⟨(d2 e).1, (d2 e).2⟩, (d2 e).2⟩⟩
  · rw [← hput]; exact srt_putF h.srt _
  · rcases List.mem_or_eq_of_mem_set hx with hx | rfl
    · exact h.len x hx
    · exact ⟨hl.1, hl.2, by rw [hs]; exact (h.len f (List.mem_of_getElem? hi)).2.2⟩
end Go.Proofs.YtcmbeolicopicaaGreat
namespace Go.Proofs.YtcmbeolicopicaaGreat
open Go.RowKit Go.Maps Go.ChangeMaps
set_option linter.unusedVariables false
set_option linter.unusedSectionVars false
set_option linter.unusedSimpArgs false
set_option maxRecDepth 100000

theorem RD.fz {B : Nat → Prop} {X n g l c : Nat} {room : Int} {P : List RF} {w : World} (h : RD B X room P n (.slice (some ⟨g, 0, none⟩) l c) w) (j : Nat) : w.frozen? ⟨g, j, none⟩ = false := by
  rcases h.row.2 with ⟨q, _⟩ | ⟨g', cap, cur, q, _, hg, _⟩
  · cases q
  · injection q with q; injection q with q; injection q with q; subst q; exact frozen_of_row w g j cur _ hg
theorem RD.gblk {B : Nat → Prop} {X n g l c : Nat} {room : Int} {P : List RF} {w : World} (h : RD B X room P n (.slice (some ⟨g, 0, none⟩) l c) w) : ∃ cur, w.heap[g]? = some (.cells cur 67 (0, 0)) := by
  rcases h.row.2 with ⟨q, _⟩ | ⟨g', cap, cur, q, _, hg, _⟩
  · cases q
  · injection q with q; injection q with q; injection q with q; subst q; exact ⟨cur, hg⟩
theorem RDid.from {B : Nat → Prop} {X n : Nat} {room : Int} {L : List FE} {w w1 w2 : World} (h : RDid B X room L n w1 w2) (hb : Below w.heap.size w w1) : RDid B X room L n w w2 := by
  obtain ⟨B', h1, h2, h3⟩ := h
  exact ⟨B', fun j q => (h1 j q).imp id (fun q => Nat.le_trans hb.size q), h2, (Below.lv hb).trans h3 (fun j q => .inl q)⟩
section
variable {B : Nat → Prop} {X n : Nat} {room : Int} {P : List RF} {v : Value} {w : World} (h : RD B X room P n v w)
include h
theorem rsync_out (s : Nm) (e : fd (P.map RF.fe) s = none) : Calls Tryz.prog 26 #[.pointer (some ⟨X, 0, none⟩), nmV s] w fun e w' => e = .returned (.int .i64 6) ∧ ∃ q, w' = w.drewN q := by
  have hp := place_out h e
  clear h e
  unfold nmV at *
  go_enter Tryz.func26, Tryz.ntmps26
  go_wp2_with fail
  (with_reducible refine hp.mono ?_)
  rintro _ _ ⟨rfl, q, rfl⟩
  clear hp
  go_wp2_with fail
  go_ret
  exact ⟨rfl, _, rfl⟩
set_option maxHeartbeats 1000000 in
theorem rsync_in (s : Nm) {f : RF} (e : P[plc (P.map RF.fe) s]? = some f) (hs : f.s = s) : Calls Tryz.prog 26 #[.pointer (some ⟨X, 0, none⟩), nmV s] w fun e w' => e = .returned (.int .i64 0) ∧ RDid B X room (putF (P.map RF.fe) ⟨f.s, f.l, f.l.length⟩) n w w' := by
  have hpl : plc (P.map RF.fe) s < P.length := (List.getElem?_eq_some_iff.1 e).1
  have hp := place_in h e hs
  obtain ⟨g, c', rfl, _, _, _, _⟩ := h.at_ e
  have hfl := (h.len f (List.mem_of_getElem? e)).1
  have hmax : P.length ≤ 1000000 := Nat.le_trans h.few h.nn
  have H := Lib.hid h
  have HE := Lib.hid e
  clear h e hs
  unfold nmV at *
  go_enter Tryz.func26, Tryz.ntmps26
  go_wp2_with fail
  (with_reducible refine hp.mono ?_)
  rintro _ _ ⟨rfl, q, rfl⟩
  clear hp
  have hb1 : Below w.heap.size w (w.drewN q) := below_drewN (Below.refl _ _) q
  generalize w.drewN q = W at *
  go_wp2_with fail
  have hb2 : Below w.heap.size w W.drew := hb1.drew
  have H2 := Lib.hid (H.out.below hb2)
  clear H hb1
  generalize plc (P.map RF.fe) s = i at *
  have cX := H2.out.c0
  have cb := (H2.out.cs HE.out).2.1
  have z2 := H2.out.fz (i * 3 + 2)
  have c2 := (H2.out.cs HE.out).2.2
  unfold RF.dv at cb
  have HB := Lib.hid hb2
  clear hb2
  go_still_tail 16, (by kernel_rfl)
  change wpList _ _ _ _ _ W.drew
  generalize W.drew = WD at *
  have hsz : (WD.setCell ⟨g, i * 3 + 2, none⟩ (.int .i64 (f.l.length : Nat))).heap.size = WD.heap.size := by simp [World.setCell]
  have hd := H2.out.dat f (List.mem_of_getElem? HE.out)
  obtain ⟨cur, hgb⟩ := H2.out.gblk
  have hfin := H2.out.turn (f' := ⟨f.s, f.A, f.c, f.l, f.l.length⟩) HE.out rfl ⟨hfl, Nat.le_refl _⟩ (by rw [← rfV_setN HE.out]; exact owns_set H2.out.row _ (by rw [rfV_len]; omega)) (hd.narrow.keep (fun b q hb => Below.heap_setCell _ _ _ b (ub_ne q.2 hgb (by decide))) (by rw [hsz]; exact Nat.le_refl _) (fun b q _ => .inl q.1)) (fun k _ hk => Below.heap_setCell WD _ _ k hk) (by rw [hsz]; exact Nat.le_refl _) ⟨rfl, rfl, rfl⟩
  have HF := Lib.hid (hfin.from HB.out)
  clear hfin hd hsz hgb
  go_wp2_with fail
  go_ret
  exact ⟨rfl, HF.out⟩
end
end Go.Proofs.YtcmbeolicopicaaGreat
namespace Go.Proofs.YtcmbeolicopicaaGreat
open Go.RowKit Go.Maps Go.ChangeMaps
set_option linter.unusedVariables false
set_option linter.unusedSectionVars false
set_option linter.unusedSimpArgs false
set_option maxRecDepth 100000

def RF.agg (f : RF) : Value := .agg #[nmV f.s, f.dv, .int .i64 f.n]
theorem RD.n3 {B : Nat → Prop} {X n g c : Nat} {room : Int} {P : List RF} {w : World} (h : RD B X room P n (.slice (some ⟨g, 0, none⟩) P.length c) w) {i : Nat} {f f' : RF} (hi : P[i]? = some f) (hs : f'.s = f.s) (hl : f'.l.length ≤ 8388608 ∧ f'.n ≤ f'.l.length) (hd : Dat w (fun b => B b ∨ w.heap.size ≤ b) f'.A f'.c f'.l) :
    RDid B X room (putF (P.map RF.fe) f'.fe) n w (((w.setCell ⟨g, i * 3, none⟩ (nmV f'.s)).setCell ⟨g, i * 3 + 1, none⟩ f'.dv).setCell ⟨g, i * 3 + 2, none⟩ (.int .i64 f'.n)) := by
  have hlt := (List.getElem?_eq_some_iff.1 hi).1
  have hl3 := rfV_len P
  obtain ⟨cur, hgb⟩ := h.gblk
  have far : ∀ k, k ≠ g → (((w.setCell ⟨g, i * 3, none⟩ (nmV f'.s)).setCell ⟨g, i * 3 + 1, none⟩ f'.dv).setCell ⟨g, i * 3 + 2, none⟩ (.int .i64 f'.n)).heap[k]? = w.heap[k]? := fun k hk =>
    (Below.heap_setCell _ _ _ k hk).trans ((Below.heap_setCell _ _ _ k hk).trans (Below.heap_setCell _ _ _ k hk))
  have hsz : (((w.setCell ⟨g, i * 3, none⟩ (nmV f'.s)).setCell ⟨g, i * 3 + 1, none⟩ f'.dv).setCell ⟨g, i * 3 + 2, none⟩ (.int .i64 f'.n)).heap.size = w.heap.size := by simp [World.setCell]
  refine h.turn hi hs hl ?_ (hd.narrow.keep (fun b q hb => far b (ub_ne q.2 hgb (by decide))) (by rw [hsz]; exact Nat.le_refl _) (fun b q _ => q.1)) (fun k _ hk => far k hk) (by rw [hsz]; exact Nat.le_refl _) ⟨rfl, rfl, rfl⟩
  rw [← rfV_set3 hlt]
  exact owns_set (owns_set (owns_set h.row _ (by omega)) _ (by simp; omega)) _ (by simp; omega)
section
variable {B : Nat → Prop} {X n : Nat} {room : Int} {P : List RF} {v : Value} {w : World} (h : RD B X room P n v w)
include h
set_option maxHeartbeats 1000000 in
theorem rput_in {f f' : RF} (e : P[plc (P.map RF.fe) f'.s]? = some f) (hs : f.s = f'.s) (hl : f'.l.length ≤ 8388608 ∧ f'.n ≤ f'.l.length) (hd : Dat w B f'.A f'.c f'.l) : Calls Tryz.prog 58 #[.pointer (some ⟨X, 0, none⟩), f'.agg] w fun e w' => e = .returned (.tuple #[]) ∧ RDid B X room (putF (P.map RF.fe) f'.fe) n w w' := by
  have hpl : plc (P.map RF.fe) f'.s < P.length := (List.getElem?_eq_some_iff.1 e).1
  have hb1 : Below w.heap.size w (w.alloc (.cells #[nmV f'.s, f'.dv, .int .i64 f'.n] 67)) := (Below.refl _ _).alloc (Nat.le_refl _) _
  have hx1 : Bk (w.alloc (.cells #[nmV f'.s, f'.dv, .int .i64 f'.n] 67)) w.heap.size 67 [nmV f'.s, f'.dv, .int .i64 f'.n] := Bk.new w _ _
  have hd1 := hd.keep (w' := w.alloc (.cells #[nmV f'.s, f'.dv, .int .i64 f'.n] 67)) (K' := B) (fun b q hb => hb1.block b hb) hb1.size (fun b q _ => q)
  have h1 := h.below hb1
  have hp := place_in h1 e hs
  obtain ⟨g, c', rfl, _, _, _, _⟩ := h.at_ e
  have hmax : P.length ≤ 1000000 := Nat.le_trans h.few h.nn
  have HE := Lib.hid e
  clear h e hd
  unfold RF.agg RF.dv nmV at *
  obtain ⟨fs, fA, fc, fl, fn⟩ := f'
  dsimp only at *
  go_enter Tryz.func58, Tryz.ntmps58
  go_wp2_with fail
  generalize (w.alloc (.cells #[.string ⟨fs.toArray⟩, .slice fA fl.length fc, .int .i64 fn] 67)) = w1 at *
  have hwl : w.heap.size < w1.heap.size := hx1.lt
  have HBW := Lib.hid hb1
  generalize hN : w.heap.size = N at *
  have HN := Lib.hid hN
  clear hN HBW
  have c0 := hx1.cell 0
  have c1 := hx1.cell 1
  have c2 := hx1.cell 2
  simp only [List.getElem?_cons_zero, List.getElem?_cons_succ] at c0 c1 c2
  go_wp2_with fail
  (with_reducible refine hp.mono ?_)
  rintro _ _ ⟨rfl, q, rfl⟩
  clear hp
  have hb2 := below_drewN (Below.refl w1.heap.size w1) q
  have hb3 : Below N w (w1.drewN q).drew := (hb1.trans (hb2.mono (Nat.le_of_lt hwl))).drew
  have H2 := Lib.hid (h1.below hb2.drew)
  have hd2 := Lib.hid (hd1.keep (w' := (w1.drewN q).drew) (K' := B) (fun b q hb => rfl) (Nat.le_refl _) (fun b q _ => q))
  have c0 : (w1.drewN q).drew.cell? ⟨N, 0, none⟩ = some (.string ⟨fs.toArray⟩) := c0
  have c1 : (w1.drewN q).drew.cell? ⟨N, 1, none⟩ = some (.slice fA fl.length fc) := c1
  have c2 : (w1.drewN q).drew.cell? ⟨N, 2, none⟩ = some (.int .i64 fn) := c2
  have HL := Lib.hid hl
  have HS := Lib.hid hs
  clear h1 hd1 hb1 hx1 hb2 hl hs
  generalize plc (P.map RF.fe) fs = i at *
  generalize w1.drewN q = W at *
  have cX := H2.out.c0
  obtain ⟨e0, e1, e2⟩ := H2.out.cs HE.out
  have z0 := H2.out.fz (i * 3)
  have z1 := H2.out.fz (i * 3 + 1)
  have z2 := H2.out.fz (i * 3 + 2)
  unfold nmV at e0
  unfold RF.dv at e1
  have HB := Lib.hid hb3
  clear hb3
  go_wp2_with fail
  go_still_tail 7, (by kernel_rfl)
  change wpList _ _ _ _ _ W.drew
  generalize W.drew = WD at *
  have HD3 := Lib.hid (hd2.out.keep (w' := WD) (K' := fun b => B b ∨ WD.heap.size ≤ b) (fun b q hb => rfl) (Nat.le_refl _) (fun b q _ => .inl q))
  go_wp2_with fail
  refine bodyPost_ret (v := .tuple #[]) (by simp [results, Tryz.results58, go_sem]) rfl ⟨rfl, ?_⟩
  exact (H2.out.n3 (f' := ⟨fs, fA, fc, fl, fn⟩) HE.out HS.out.symm HL.out HD3.out).from (by rw [HN.out]; exact HB.out)
end
end Go.Proofs.YtcmbeolicopicaaGreat
