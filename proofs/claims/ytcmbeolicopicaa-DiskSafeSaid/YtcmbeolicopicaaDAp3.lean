/- disk: Append to no file. -/
import Derived.Test.YtcmbeolicopicaaDAp2
namespace Go.Proofs.Ytcmbeolicopicaa
open Go.RowKit Go.Maps Go.ChangeMaps
set_option linter.unusedVariables false
set_option linter.unusedSectionVars false
set_option linter.unusedSimpArgs false
set_option maxRecDepth 100000

section
variable {B : Nat → Prop} {D n : Nat} {room : Int} {L : List FE} {w : World} (h : DB B D room L n w) (s : Nm) (hs : s.length ≤ 1000000) {K : Nat → Prop} {A : Option Addr} {c : Nat} {l : List Int} (ha : Rd w K A c (u8s l)) (hK : ∀ b, K b → b < w.heap.size) (hl : l.length ≤ 8388609) (hn : n + 1 ≤ 1000000)
include h hs ha hK hl hn
theorem app_new (eo : okN s = true) (eg : fd L s = none) : Calls Try.prog 15 #[.pointer (some ⟨D, 0, none⟩), nmV s, .slice A l.length c] w fun e w' => e = .returned (.int .i64 (appE room L s l)) ∧ DDid B D room (appL room L s l) (n + 1) w w' := by
  have hD0 := h
  obtain ⟨st, h⟩ := h
  have hk := known_any D st.m _ _ h.dsk.dsk
  have hr := right_any _ _ _ [s] _ (rd_new w 9 [nmV s]) (by rintro b rfl; simp) (by simpa using hs) (by simp)
  simp only [List.length_cons, List.length_nil, Nat.zero_add, Nat.reduceAdd] at hr
  have hb0 : Below w.heap.size w (w.alloc (.cells #[nmV s] 9)) := (Below.refl _ _).alloc (Nat.le_refl _) _
  unfold nmV at *
  go_enter Try.func15, Try.ntmps15
  go_wp2_with fail
  (with_reducible refine hk.mono ?_)
  rintro _ _ ⟨rfl, rfl⟩
  clear hk
  go_wp2_with fail
  (with_reducible refine hr.mono ?_)
  rintro _ w1 ⟨rfl, hb1⟩
  clear hr
  replace hb1 := hb0.trans (hb1.mono hb0.size)
  have : [s].all okN = true := by simpa using eo
  rw [this]
  have h1 := h.below hb1
  have hlk := h1.look s hs w1 rfl
  have e1 := fdD_none_of h eg
  rw [e1] at hlk
  unfold lookV at hlk
  have c0 := h1.dsk.dsk.cell 0
  simp only [List.getElem?_cons_zero] at c0
  have hb2 : Below w1.heap.size w1 (w1.alloc (.cells #[.slice none 0 0, .int .i64 0] 58)) := (Below.refl _ _).alloc (Nat.le_refl _) _
  have hG : Bk (w1.alloc (.cells #[.slice none 0 0, .int .i64 0] 58)) w1.heap.size 58 [.slice none 0 0, .int .i64 0] := Bk.new w1 58 [.slice none 0 0, .int .i64 0]
  have h2 := h1.below hb2
  have c1 := h2.dsk.dsk.cell 1
  have q0 := hG.cell 0
  simp only [List.getElem?_cons_zero, List.getElem?_cons_succ] at c1 q0
  unfold nmV at *
  go_wp2_with fail
  · next hlong =>
    have HG := Lib.hid hlong
    go_ret
    have hE : appE room L s l = 3 := by unfold appE oldF; rw [eo, eg, if_neg (by simp), if_pos (by have := HG.out; simp; omega)]
    have hL : appL room L s l = L := by unfold appL; rw [hE]; rfl
    exact ⟨by rw [hE]; rfl, by rw [hL]; exact DDid.same (hD0.mono (by omega) hn) (hb1.trans (hb2.mono hb1.size))⟩
  · next hlong =>
    have hU := hD0.used_le
    have HG := Lib.hid hlong
    have hrm := h.room
    generalize w1.alloc (.cells #[.slice none 0 0, .int .i64 0] 58) = w2 at *
    refine wp_region_held_drew (S := fun w' => w'.cell? ⟨D, 1, none⟩ = some (.int .i64 st.room)) (by kernel_rfl) c1 (fun hS => ?_)
    refine wpAnyH_take (i := 0) (v := ?_) rfl (by kernel_rfl) (by kernel_rfl) (by kernel_rfl) (fun _ _ _ h => h) (Or.inl ⟨by rfl, ?_⟩) hS ?_
    rotate_left 1
    · intro w' hSw
      go_simp <;> with_reducible rfl
    try simp only [List.getElem_toArray, List.getElem_cons_zero, List.getElem_cons_succ, Act.put, List.setIfInBounds_toArray, List.set_cons_zero, List.set_cons_succ]
    refine wpAnyH_take (i := 1) (v := ?_) rfl (by kernel_rfl) (by kernel_rfl) (by kernel_rfl) (fun _ _ _ h => h) (Or.inl ⟨by rfl, ?_⟩) hS ?_
    rotate_left 1
    · intro w' hSw
      go_simp <;> with_reducible rfl
    try simp only [List.getElem_toArray, List.getElem_cons_zero, List.getElem_cons_succ, Act.put, List.setIfInBounds_toArray, List.set_cons_zero, List.set_cons_succ]
    refine wpAnyH_take (i := 2) (v := ?_) rfl (by kernel_rfl) (by kernel_rfl) (by kernel_rfl) (fun _ _ _ h => h) (Or.inl ⟨by rfl, ?_⟩) hS ?_
    rotate_left 1
    · intro w' hSw
      go_simp <;> with_reducible rfl
    try simp only [List.getElem_toArray, List.getElem_cons_zero, List.getElem_cons_succ, Act.put, List.setIfInBounds_toArray, List.set_cons_zero, List.set_cons_succ]
    refine wpAnyH_take (i := 4) (v := ?_) rfl (by kernel_rfl) (by kernel_rfl) (by kernel_rfl) (fun _ _ _ h => h) (Or.inl ⟨by rfl, ?_⟩) hS ?_
    rotate_left 1
    · intro w' hSw
      go_simp <;> with_reducible rfl
    try simp only [List.getElem_toArray, List.getElem_cons_zero, List.getElem_cons_succ, Act.put, List.setIfInBounds_toArray, List.set_cons_zero, List.set_cons_succ]
    refine wpAnyH_take (i := 5) (v := ?_) rfl (by kernel_rfl) (by kernel_rfl) (by kernel_rfl) (fun _ _ _ h => h) (Or.inl ⟨by rfl, ?_⟩) hS ?_
    rotate_left 1
    · intro w' hSw
      go_simp <;> with_reducible rfl
    try simp only [List.getElem_toArray, List.getElem_cons_zero, List.getElem_cons_succ, Act.put, List.setIfInBounds_toArray, List.set_cons_zero, List.set_cons_succ]
    refine wpAnyH_take (i := 7) (v := ?_) rfl (by kernel_rfl) (by kernel_rfl) (by kernel_rfl) (fun _ _ _ h => h) (Or.inl ⟨by rfl, ?_⟩) hS ?_
    rotate_left 1
    · intro w' hSw
      go_simp <;> with_reducible rfl
    try simp only [List.getElem_toArray, List.getElem_cons_zero, List.getElem_cons_succ, Act.put, List.setIfInBounds_toArray, List.set_cons_zero, List.set_cons_succ]
    refine wpAnyH_take (i := 8) (v := ?_) rfl (by kernel_rfl) (by kernel_rfl) (by kernel_rfl) (fun _ _ _ h => h) (Or.inl ⟨by rfl, ?_⟩) hS ?_
    rotate_left 1
    · intro w' hSw
      go_simp <;> with_reducible rfl
    try simp only [List.getElem_toArray, List.getElem_cons_zero, List.getElem_cons_succ, Act.put, List.setIfInBounds_toArray, List.set_cons_zero, List.set_cons_succ]
    refine wpAnyH_take (i := 9) (v := ?_) rfl (by kernel_rfl) (by kernel_rfl) (by kernel_rfl) (fun _ _ _ h => h) (Or.inl ⟨by rfl, ?_⟩) hS ?_
    rotate_left 1
    · intro w' hSw
      go_simp <;> with_reducible rfl
    try simp only [List.getElem_toArray, List.getElem_cons_zero, List.getElem_cons_succ, Act.put, List.setIfInBounds_toArray, List.set_cons_zero, List.set_cons_succ]
    refine wpAnyH_take (i := 10) (v := ?_) rfl (by kernel_rfl) (by kernel_rfl) (by kernel_rfl) (fun _ _ _ h => h) (Or.inl ⟨by rfl, ?_⟩) hS ?_
    rotate_left 1
    · intro w' hSw
      go_simp <;> with_reducible rfl
    try simp only [List.getElem_toArray, List.getElem_cons_zero, List.getElem_cons_succ, Act.put, List.setIfInBounds_toArray, List.set_cons_zero, List.set_cons_succ]
    refine wpAnyH_take (i := 11) (v := ?_) rfl (by kernel_rfl) (by kernel_rfl) (by kernel_rfl) (fun _ _ _ h => h) (Or.inl ⟨by rfl, ?_⟩) hS ?_
    rotate_left 1
    · intro w' hSw
      go_simp <;> with_reducible rfl
    try simp only [List.getElem_toArray, List.getElem_cons_zero, List.getElem_cons_succ, Act.put, List.setIfInBounds_toArray, List.set_cons_zero, List.set_cons_succ]
    refine wpAnyH_ready (rs := [3]) (by kernel_rfl) (by simp) (AllReadyH.cons rfl (fun K hK => ?_) AllReadyH.nil)
    go_simp
    (with_reducible refine (used_any D st w2.drew (h2.dsk.heap_ rfl) h2.few').mono ?_)
    rintro _ w3 ⟨rfl, hb3⟩
    rw [h2.used]
    have hw3 : Below w2.heap.size w2 w3 := (Below.refl w2.heap.size w2).drew.trans hb3
    go_simp
    refine hK _ _ ((h2.dsk.below hw3).dsk.cell 1) (fun hS => ?_)
    clear hK K
    try simp only [List.getElem_toArray, List.getElem_cons_zero, List.getElem_cons_succ, Act.put, List.setIfInBounds_toArray, List.set_cons_zero, List.set_cons_succ]
    refine wpAnyH_take (i := 6) (v := ?_) rfl (by kernel_rfl) (by kernel_rfl) (by kernel_rfl) (fun _ _ _ h => h) (Or.inl ⟨by rfl, ?_⟩) hS ?_
    rotate_left 1
    · intro w' hSw
      go_simp <;> with_reducible rfl
    try simp only [List.getElem_toArray, List.getElem_cons_zero, List.getElem_cons_succ, Act.put, List.setIfInBounds_toArray, List.set_cons_zero, List.set_cons_succ]
    refine wpAnyH_take (i := 12) (v := ?_) rfl (by kernel_rfl) (by kernel_rfl) (by kernel_rfl) (fun _ _ _ h => h) (Or.inl ⟨by rfl, ?_⟩) hS ?_
    rotate_left 1
    · intro w' hSw
      go_simp <;> with_reducible rfl
    try simp only [List.getElem_toArray, List.getElem_cons_zero, List.getElem_cons_succ, Act.put, List.setIfInBounds_toArray, List.set_cons_zero, List.set_cons_succ]
    refine wpAnyH_take (i := 13) (v := ?_) rfl (by kernel_rfl) (by kernel_rfl) (by kernel_rfl) (fun _ _ _ h => h) (Or.inl ⟨by rfl, ?_⟩) hS ?_
    rotate_left 1
    · intro w' hSw
      go_simp <;> with_reducible rfl
    try simp only [List.getElem_toArray, List.getElem_cons_zero, List.getElem_cons_succ, Act.put, List.setIfInBounds_toArray, List.set_cons_zero, List.set_cons_succ]
    refine wpAnyH_done (by kernel_rfl) ?_ _
    have h3 := h2.below hw3
    have hG3 := hG.below hw3 hG.lt
    have q03 := hG3.cell 0
    have z03 := hG3.frozen 0
    simp only [List.getElem?_cons_zero] at q03
    have hb13 := hb2.trans (hw3.mono hb2.size)
    have hbw := hb1.trans (hb13.mono hb1.size)
    have ha3 := ha.keep (K' := K) (w' := w3) (fun b q => hbw.block b (hK b q)) (fun _ q => q)
    obtain ⟨A4, c4, w4, hrun, hd4, hgr, hown⟩ := dat_append (Dat.nil w3 (fun _ => True)) ha3 (by simp; omega) 29
    simp only [List.nil_append, List.length_nil] at hrun hd4 hgr hown
    have hwr : IntKind.i64.wrap ((usedF L : Int) + (l.length : Int)) = (usedF L : Int) + (l.length : Int) := IntWalk.i64_in _ (by omega)
    have hG4 : Bk w4 w1.heap.size 58 [.slice none 0 0, .int .i64 0] := (hgr.block _ hG3.lt (fun e => by cases e)).trans hG3
    have q04 := hG4.cell 0
    have z04 := hG4.frozen 0
    simp only [List.getElem?_cons_zero] at q04
    have hfar : ∀ k, k < w1.heap.size → (w4.setCell ⟨w1.heap.size, 0, none⟩ (.slice A4 l.length c4)).heap[k]? = w1.heap[k]? := fun k hk =>
      (Below.heap_setCell _ _ _ k (by show k ≠ w1.heap.size; omega)).trans ((hgr.block k (Nat.lt_of_lt_of_le hk hb13.size) (fun e => by cases e)).trans (hb13.block k hk))
    have hsz : (w4.setCell ⟨w1.heap.size, 0, none⟩ (.slice A4 l.length c4)).heap.size = w4.heap.size := by simp [World.setCell]
    have hsz1 : w1.heap.size ≤ w4.heap.size := Nat.le_trans hb13.size hgr.size
    have h4 : DBs B D room L n st (w4.setCell ⟨w1.heap.size, 0, none⟩ (.slice A4 l.length c4)) := ⟨h1.dsk.keep (hfar _ h1.dsk.dsk.lt) (fun k q => hfar k (h1.dsk.olt q)) (by rw [hsz]; exact hsz1), h1.room, h1.perm, h1.srt, h1.own, h1.hD, fun j q => by rw [hsz]; exact Nat.lt_of_lt_of_le (h1.lt j q) hsz1, h1.few, h1.nn, h1.len⟩
    have c04 := h4.dsk.dsk.cell 0
    simp only [List.getElem?_cons_zero] at c04
    obtain ⟨w5, hput, hmt, hm⟩ := h4.put_new s hs (fdD_none e1) (.pointer (some ⟨w1.heap.size, 0, none⟩)) _ rfl
    have hG5 : Bk w5 w1.heap.size 58 [.slice A4 l.length c4, .int .i64 0] := (hmt.far _ (by have := h1.dsk.mlt; omega)).trans (hG4.set 0 _)
    have hown4 : ∀ g, (Value.slice A4 l.length c4).ownBlock = some g → w3.heap.size ≤ g := fun g q => (hown g q).elim (fun q => by cases q) id
    have hs3 : w1.heap.size < w3.heap.size := hG3.lt
    have hd5 : Dat w5 (fun _ => True) A4 c4 l := hd4.keep' (fun b e _ => (hmt.far b (by have := hown4 b e; have := h1.dsk.mlt; omega)).trans (Below.heap_setCell _ _ _ b (by show b ≠ w1.heap.size; have := hown4 b e; omega))) (by rw [hmt.size, hsz]; exact Nat.le_refl _)
    have HF := fun (hsl : s.length ≤ 24) => h1.pushF (w' := w5) (f' := ⟨s, w1.heap.size, A4, c4, l, 0⟩) (fdD_none e1)
      ⟨hG5, hd5, by have := HG.out; simp; omega, Nat.zero_le _, hsl⟩ (Nat.le_refl _) (fun b e => by have := hown4 b e; omega) (fun k k1 k2 => (hmt.far k k2).trans (hfar k k1)) (by rw [hmt.size, hsz]; exact hsz1)
      ⟨hmt.os.trans (hgr.os.trans hb13.os), hmt.tape.trans (hgr.tape.trans hb13.tape), hmt.output.trans (hgr.output.trans hb13.output)⟩ (fun es ck he => hm es ck ((hfar _ h1.dsk.mlt).trans he)) hn
    have HF := Lib.hid (HF (okN_len eo))
    clear hmt hm hd5 hG5 hown4 hgr hd4 hown h4 hfar
    unfold nmV at hput
    go_wp2_with (first | (at_builtin; refine wpList_app (by rfl) (.tmp 56) (.tmp 57) 29 (by rfl) (by rfl) (by rfl) hrun ?_) | (refine wpList_upd (by rfl) 45 (.tmp 65) (.tmp 66) (.tmp 67) (by rfl) (by rfl) (by rfl) (by rfl) hput ?_))
    · next hfull =>
      rw [hwr] at hfull
      go_ret
      have hE : appE room L s l = 5 := by unfold appE oldF; rw [eo, eg, if_neg (by simp), if_neg (by have := HG.out; simp; omega), if_pos (by omega)]
      have hL : appL room L s l = L := by unfold appL; rw [hE]; rfl
      exact ⟨by rw [hE]; rfl, by rw [hL]; exact DDid.same (hD0.mono (by omega) hn) hbw⟩
    · next hfit =>
      rw [hwr] at hfit
      go_ret
      have hE : appE room L s l = 0 := by unfold appE oldF; rw [eo, eg, if_neg (by simp), if_neg (by have := HG.out; simp; omega), if_neg (by omega)]
      have hL : appL room L s l = putF L ⟨s, l, 0⟩ := by unfold appL oldF oldN; rw [hE, eg]; rfl
      obtain ⟨B', p1, p2, p3⟩ := HF.out
      exact ⟨by rw [hE]; rfl, by rw [hL]; exact ⟨B', fun j q => (p1 j q).imp id (fun q => Nat.le_trans hb1.size q), p2, (Below.lv hb1).trans p3 (fun j q => .inl q)⟩⟩
end
section
variable {B : Nat → Prop} {D n : Nat} {room : Int} {L : List FE} {w : World} (h : DB B D room L n w) (s : Nm) (hs : s.length ≤ 1000000) {K : Nat → Prop} {A : Option Addr} {c : Nat} {l : List Int} (ha : Rd w K A c (u8s l)) (hK : ∀ b, K b → b < w.heap.size) (hl : l.length ≤ 8388609) (hn : n + 1 ≤ 1000000)
include h hs ha hK hl hn
theorem op_append : Calls Try.prog 15 #[.pointer (some ⟨D, 0, none⟩), nmV s, .slice A l.length c] w fun e w' => e = .returned (.int .i64 (appE room L s l)) ∧ DDid B D room (appL room L s l) (n + 1) w w' := by
  have hup : ∀ e w', (e = Ending.returned (Value.int .i64 (appE room L s l)) ∧ DDid B D room (appL room L s l) n w w') → e = Ending.returned (Value.int .i64 (appE room L s l)) ∧ DDid B D room (appL room L s l) (n + 1) w w' := by
    rintro e w' ⟨q, B', q1, q2, q3⟩
    exact ⟨q, B', q1, q2.mono (Nat.le_succ _) hn, q3⟩
  cases eo : okN s with
  | false => exact (app_bad h s hs ha hK hl eo).mono hup
  | true =>
    cases eg : fd L s with
    | none => exact app_new h s hs ha hK hl hn eo eg
    | some g => exact (app_old h s hs ha hK hl eo eg).mono hup
end
end Go.Proofs.Ytcmbeolicopicaa

