/- disk: Append. -/
import Derived.Test.YtcmbeolicopicaaDApp
namespace Go.Proofs.Ytcmbeolicopicaa
open Go.RowKit Go.Maps Go.ChangeMaps
set_option linter.unusedVariables false
set_option linter.unusedSectionVars false
set_option linter.unusedSimpArgs false
set_option maxRecDepth 100000

def oldF (L : List FE) (s : Nm) : List Int := match fd L s with | some f => f.l | none => []
def oldN (L : List FE) (s : Nm) : Nat := match fd L s with | some f => f.n | none => 0
def appE (room : Int) (L : List FE) (s : Nm) (l : List Int) : Int := if !okN s then 2 else if 8388608 < (oldF L s).length + l.length then 3 else if room < usedF L + l.length then 5 else 0
def appL (room : Int) (L : List FE) (s : Nm) (l : List Int) : List FE := if appE room L s l = 0 then putF L ⟨s, oldF L s ++ l, oldN L s⟩ else L
theorem Dat.keep' {w w' : World} {K : Nat → Prop} {A : Option Addr} {c : Nat} {l : List Int} (h : Dat w K A c l) (hk : ∀ b, (Value.slice A l.length c).ownBlock = some b → b < w.heap.size → w'.heap[b]? = w.heap[b]?) (hs : w.heap.size ≤ w'.heap.size) : Dat w' K A c l := by
  obtain ⟨b, h1, h2⟩ := h
  exact ⟨b, h1.keep (fun e => hk b e (h2 e).2), fun e => ⟨(h2 e).1, Nat.lt_of_lt_of_le (h2 e).2 hs⟩⟩
section
variable {B : Nat → Prop} {D n : Nat} {room : Int} {L : List FE} {w : World} (h : DB B D room L n w) (s : Nm) (hs : s.length ≤ 1000000) {K : Nat → Prop} {A : Option Addr} {c : Nat} {l : List Int} (ha : Rd w K A c (u8s l)) (hK : ∀ b, K b → b < w.heap.size) (hl : l.length ≤ 8388609)
include h hs ha hK hl
theorem app_bad (eo : okN s = false) : Calls Try.prog 15 #[.pointer (some ⟨D, 0, none⟩), nmV s, .slice A l.length c] w fun e w' => e = .returned (.int .i64 (appE room L s l)) ∧ DDid B D room (appL room L s l) n w w' := by
  obtain ⟨st, h⟩ := h
  have hk := known_any D st.m _ _ h.dsk.dsk
  have hr := right_any _ _ _ [s] _ (rd_new w 9 [nmV s]) (by rintro b rfl; simp) (by simpa using hs) (by simp)
  simp only [List.length_cons, List.length_nil, Nat.zero_add, Nat.reduceAdd] at hr
  have hb0 : Below w.heap.size w (w.alloc (.cells #[nmV s] 9)) := (Below.refl _ _).alloc (Nat.le_refl _) _
  unfold nmV at *
  go_enter Try.func15, Try.ntmps15
  go_wp2_with fail
  (with_reducible refine hk.mono ?_)
  rintro _ _ ⟨rfl, rfl⟩
  clear hk
  go_wp2_with fail
  (with_reducible refine hr.mono ?_)
  rintro _ w1 ⟨rfl, hb1⟩
  clear hr
  replace hb1 := hb0.trans (hb1.mono hb0.size)
  have : [s].all okN = false := by simpa using eo
  rw [this]
  go_wp2_with fail
  go_ret
  have hE : appE room L s l = 2 := by unfold appE; rw [eo]; rfl
  have hL : appL room L s l = L := by unfold appL; rw [hE]; rfl
  exact ⟨by rw [hE]; rfl, by rw [hL]; exact DDid.same ⟨st, h⟩ hb1⟩
theorem app_old (eo : okN s = true) {g : FE} (eg : fd L s = some g) : Calls Try.prog 15 #[.pointer (some ⟨D, 0, none⟩), nmV s, .slice A l.length c] w fun e w' => e = .returned (.int .i64 (appE room L s l)) ∧ DDid B D room (appL room L s l) n w w' := by
  obtain ⟨st, h⟩ := h
  have hk := known_any D st.m _ _ h.dsk.dsk
  have hr := right_any _ _ _ [s] _ (rd_new w 9 [nmV s]) (by rintro b rfl; simp) (by simpa using hs) (by simp)
  simp only [List.length_cons, List.length_nil, Nat.zero_add, Nat.reduceAdd] at hr
  have hb0 : Below w.heap.size w (w.alloc (.cells #[nmV s] 9)) := (Below.refl _ _).alloc (Nat.le_refl _) _
  unfold nmV at *
  go_enter Try.func15, Try.ntmps15
  go_wp2_with fail
  (with_reducible refine hk.mono ?_)
  rintro _ _ ⟨rfl, rfl⟩
  clear hk
  go_wp2_with fail
  (with_reducible refine hr.mono ?_)
  rintro _ w1 ⟨rfl, hb1⟩
  clear hr
  replace hb1 := hb0.trans (hb1.mono hb0.size)
  have : [s].all okN = true := by simpa using eo
  rw [this]
  have h1 := h.below hb1
  have hlk := h1.look s hs w1 rfl
  obtain ⟨f, j, e1, e2, e3, hj⟩ := fdD_some_of h eg
  rw [e1] at hlk
  unfold lookV at hlk
  have c0 := h1.dsk.dsk.cell 0
  have c1 := h1.dsk.dsk.cell 1
  have hF := h1.dsk.file f (List.mem_of_getElem? hj)
  have q0 := hF.bk.cell 0
  have z0 := hF.bk.frozen 0
  simp only [List.getElem?_cons_zero, List.getElem?_cons_succ, DF.dv] at c0 c1 q0
  have hfl := hF.len
  unfold DF.val at hlk
  unfold nmV at *
  go_wp2_with fail
  · next hlong =>
    have HG := Lib.hid hlong
    go_ret
    have hE : appE room L s l = 3 := by unfold appE oldF; rw [eo, eg, ← e2, if_neg (by simp), if_pos (by have := HG.out; simp only [DF.fe]; omega)]
    have hL : appL room L s l = L := by unfold appL; rw [hE]; rfl
    exact ⟨by rw [hE]; rfl, by rw [hL]; exact DDid.same ⟨st, h⟩ hb1⟩
  · next hlong =>
    have hU := (show DB B D room L n w1 from ⟨st, h1⟩).used_le
    have HG := Lib.hid hlong
    have hrm := h.room
    refine wp_region_held_drew (S := fun w' => w'.cell? ⟨D, 1, none⟩ = some (.int .i64 st.room)) (by kernel_rfl) c1 (fun hS => ?_)
    refine wpAnyH_take (i := 0) (v := ?_) rfl (by kernel_rfl) (by kernel_rfl) (by kernel_rfl) (fun _ _ _ h => h) (Or.inl ⟨by rfl, ?_⟩) hS ?_
    rotate_left 1
    · intro w' hSw
      go_simp <;> with_reducible rfl
    try simp only [List.getElem_toArray, List.getElem_cons_zero, List.getElem_cons_succ, Act.put, List.setIfInBounds_toArray, List.set_cons_zero, List.set_cons_succ]
    refine wpAnyH_take (i := 1) (v := ?_) rfl (by kernel_rfl) (by kernel_rfl) (by kernel_rfl) (fun _ _ _ h => h) (Or.inl ⟨by rfl, ?_⟩) hS ?_
    rotate_left 1
    · intro w' hSw
      go_simp <;> with_reducible rfl
    try simp only [List.getElem_toArray, List.getElem_cons_zero, List.getElem_cons_succ, Act.put, List.setIfInBounds_toArray, List.set_cons_zero, List.set_cons_succ]
    refine wpAnyH_take (i := 2) (v := ?_) rfl (by kernel_rfl) (by kernel_rfl) (by kernel_rfl) (fun _ _ _ h => h) (Or.inl ⟨by rfl, ?_⟩) hS ?_
    rotate_left 1
    · intro w' hSw
      go_simp <;> with_reducible rfl
    try simp only [List.getElem_toArray, List.getElem_cons_zero, List.getElem_cons_succ, Act.put, List.setIfInBounds_toArray, List.set_cons_zero, List.set_cons_succ]
    refine wpAnyH_take (i := 4) (v := ?_) rfl (by kernel_rfl) (by kernel_rfl) (by kernel_rfl) (fun _ _ _ h => h) (Or.inl ⟨by rfl, ?_⟩) hS ?_
    rotate_left 1
    · intro w' hSw
      go_simp <;> with_reducible rfl
    try simp only [List.getElem_toArray, List.getElem_cons_zero, List.getElem_cons_succ, Act.put, List.setIfInBounds_toArray, List.set_cons_zero, List.set_cons_succ]
    refine wpAnyH_take (i := 5) (v := ?_) rfl (by kernel_rfl) (by kernel_rfl) (by kernel_rfl) (fun _ _ _ h => h) (Or.inl ⟨by rfl, ?_⟩) hS ?_
    rotate_left 1
    · intro w' hSw
      go_simp <;> with_reducible rfl
    try simp only [List.getElem_toArray, List.getElem_cons_zero, List.getElem_cons_succ, Act.put, List.setIfInBounds_toArray, List.set_cons_zero, List.set_cons_succ]
    refine wpAnyH_take (i := 7) (v := ?_) rfl (by kernel_rfl) (by kernel_rfl) (by kernel_rfl) (fun _ _ _ h => h) (Or.inl ⟨by rfl, ?_⟩) hS ?_
    rotate_left 1
    · intro w' hSw
      go_simp <;> with_reducible rfl
    try simp only [List.getElem_toArray, List.getElem_cons_zero, List.getElem_cons_succ, Act.put, List.setIfInBounds_toArray, List.set_cons_zero, List.set_cons_succ]
    refine wpAnyH_take (i := 8) (v := ?_) rfl (by kernel_rfl) (by kernel_rfl) (by kernel_rfl) (fun _ _ _ h => h) (Or.inl ⟨by rfl, ?_⟩) hS ?_
    rotate_left 1
    · intro w' hSw
      go_simp <;> with_reducible rfl
    try simp only [List.getElem_toArray, List.getElem_cons_zero, List.getElem_cons_succ, Act.put, List.setIfInBounds_toArray, List.set_cons_zero, List.set_cons_succ]
    refine wpAnyH_take (i := 9) (v := ?_) rfl (by kernel_rfl) (by kernel_rfl) (by kernel_rfl) (fun _ _ _ h => h) (Or.inl ⟨by rfl, ?_⟩) hS ?_
    rotate_left 1
    · intro w' hSw
      go_simp <;> with_reducible rfl
    try simp only [List.getElem_toArray, List.getElem_cons_zero, List.getElem_cons_succ, Act.put, List.setIfInBounds_toArray, List.set_cons_zero, List.set_cons_succ]
    refine wpAnyH_take (i := 10) (v := ?_) rfl (by kernel_rfl) (by kernel_rfl) (by kernel_rfl) (fun _ _ _ h => h) (Or.inl ⟨by rfl, ?_⟩) hS ?_
    rotate_left 1
    · intro w' hSw
      go_simp <;> with_reducible rfl
    try simp only [List.getElem_toArray, List.getElem_cons_zero, List.getElem_cons_succ, Act.put, List.setIfInBounds_toArray, List.set_cons_zero, List.set_cons_succ]
    refine wpAnyH_take (i := 11) (v := ?_) rfl (by kernel_rfl) (by kernel_rfl) (by kernel_rfl) (fun _ _ _ h => h) (Or.inl ⟨by rfl, ?_⟩) hS ?_
    rotate_left 1
    · intro w' hSw
      go_simp <;> with_reducible rfl
    try simp only [List.getElem_toArray, List.getElem_cons_zero, List.getElem_cons_succ, Act.put, List.setIfInBounds_toArray, List.set_cons_zero, List.set_cons_succ]
    refine wpAnyH_ready (rs := [3]) (by kernel_rfl) (by simp) (AllReadyH.cons rfl (fun K hK => ?_) AllReadyH.nil)
    go_simp
    (with_reducible refine (used_any D st w1.drew (h1.dsk.heap_ rfl) h1.few').mono ?_)
    rintro _ w2 ⟨rfl, hb2⟩
    rw [h1.used]
    have hw2 : Below w1.heap.size w1 w2 := (Below.refl w1.heap.size w1).drew.trans hb2
    go_simp
    refine hK _ _ ((h1.dsk.below hw2).dsk.cell 1) (fun hS => ?_)
    clear hK K
    try simp only [List.getElem_toArray, List.getElem_cons_zero, List.getElem_cons_succ, Act.put, List.setIfInBounds_toArray, List.set_cons_zero, List.set_cons_succ]
    refine wpAnyH_take (i := 6) (v := ?_) rfl (by kernel_rfl) (by kernel_rfl) (by kernel_rfl) (fun _ _ _ h => h) (Or.inl ⟨by rfl, ?_⟩) hS ?_
    rotate_left 1
    · intro w' hSw
      go_simp <;> with_reducible rfl
    try simp only [List.getElem_toArray, List.getElem_cons_zero, List.getElem_cons_succ, Act.put, List.setIfInBounds_toArray, List.set_cons_zero, List.set_cons_succ]
    refine wpAnyH_take (i := 12) (v := ?_) rfl (by kernel_rfl) (by kernel_rfl) (by kernel_rfl) (fun _ _ _ h => h) (Or.inl ⟨by rfl, ?_⟩) hS ?_
    rotate_left 1
    · intro w' hSw
      go_simp <;> with_reducible rfl
    try simp only [List.getElem_toArray, List.getElem_cons_zero, List.getElem_cons_succ, Act.put, List.setIfInBounds_toArray, List.set_cons_zero, List.set_cons_succ]
    refine wpAnyH_take (i := 13) (v := ?_) rfl (by kernel_rfl) (by kernel_rfl) (by kernel_rfl) (fun _ _ _ h => h) (Or.inl ⟨by rfl, ?_⟩) hS ?_
    rotate_left 1
    · intro w' hSw
      go_simp <;> with_reducible rfl
    try simp only [List.getElem_toArray, List.getElem_cons_zero, List.getElem_cons_succ, Act.put, List.setIfInBounds_toArray, List.set_cons_zero, List.set_cons_succ]
    refine wpAnyH_done (by kernel_rfl) ?_ _
    have h2 := h1.below hw2
    have hF2 := h2.dsk.file f (List.mem_of_getElem? hj)
    have q02 := hF2.bk.cell 0
    have z02 := hF2.bk.frozen 0
    have c02 := h2.dsk.dsk.cell 0
    simp only [List.getElem?_cons_zero, List.getElem?_cons_succ, DF.dv] at q02 c02
    have hbw := hb1.trans (hw2.mono hb1.size)
    have ha2 := ha.keep (K' := K) (w' := w2) (fun b q => hbw.block b (hK b q)) (fun _ q => q)
    obtain ⟨A3, c3, w3, hrun, hd3, hgr, hown⟩ := dat_append hF2.dat ha2 (by omega) 29
    have hwr : IntKind.i64.wrap ((usedF L : Int) + (l.length : Int)) = (usedF L : Int) + (l.length : Int) := IntWalk.i64_in _ (by omega)
    have hmm := List.mem_of_getElem? hj
    have hno := h2.dsk.gd hmm hmm
    have hF3 : Bk w3 f.g 58 [f.dv, .int .i64 f.n] := (hgr.block _ hF2.bk.lt (fun e => hno e.symm)).trans hF2.bk
    have q03 := hF3.cell 0
    have z03 := hF3.frozen 0
    simp only [List.getElem?_cons_zero] at q03
    have h4 := h2.setFs (w' := w3.setCell ⟨f.g, 0, none⟩ (.slice A3 (f.l ++ l).length c3)) (f' := ⟨f.s, f.g, A3, c3, f.l ++ l, f.n⟩) hj rfl rfl
      ⟨hF3.set 0 _, hd3.keep' (fun b e _ => Below.heap_setCell _ _ _ b (fun q => by
        have q : b = f.g := q
        subst q
        rcases hown _ e with q | q
        · exact hno q
        · have := hF2.bk.lt; omega)) (by simp [World.setCell]), by have := HG.out; simp; omega, by have := hF2.nl; simp; omega, hF2.sl⟩
      (fun b e => hown b e) (fun k k1 k2 k3 => (Below.heap_setCell _ _ _ k k2).trans (hgr.block k k1 (fun e => k3 e.symm))) (by simp [World.setCell]; exact hgr.size) ⟨hgr.os, hgr.tape, hgr.output⟩
    obtain ⟨h4, hv4⟩ := h4
    have c04 := h4.dsk.dsk.cell 0
    simp only [List.getElem?_cons_zero] at c04
    obtain ⟨w5, hput, h5, hv5⟩ := h4.putSame (j := j) (f := ⟨f.s, f.g, A3, c3, f.l ++ l, f.n⟩) (by rw [List.getElem?_set, if_pos rfl, if_pos (List.getElem?_eq_some_iff.1 hj).1])
    have HF := Lib.hid (show DDid B D room (putF L ⟨f.s, f.l ++ l, f.n⟩) n w w5 from ⟨_, fun k q => q.1.imp id (fun q => Nat.le_trans hbw.size q), ⟨_, h5⟩, (Below.lv hbw).trans (hv4.trans hv5 (fun k q => q.1)) (fun k q => .inl q)⟩)
    clear h5 hv5 hv4 h4 hgr hd3 hF3 hown
    rw [e3] at hput
    unfold DF.val nmV at hput
    simp only [List.length_append] at c04 hput hrun
    go_wp2_with (first | (at_builtin; refine wpList_app (by rfl) (.tmp 56) (.tmp 57) 29 (by rfl) (by rfl) (by rfl) hrun ?_) | (refine wpList_upd (by rfl) 45 (.tmp 65) (.tmp 66) (.tmp 67) (by rfl) (by rfl) (by rfl) (by rfl) hput ?_))
    · next hfull =>
      rw [hwr] at hfull
      go_ret
      have hE : appE room L s l = 5 := by unfold appE oldF; rw [eo, eg, ← e2, if_neg (by simp), if_neg (by have := HG.out; simp only [DF.fe]; omega), if_pos (by omega)]
      have hL : appL room L s l = L := by unfold appL; rw [hE]; rfl
      exact ⟨by rw [hE]; rfl, by rw [hL]; exact DDid.same ⟨st, h⟩ hbw⟩
    · next hfit =>
      rw [hwr] at hfit
      go_ret
      have hE : appE room L s l = 0 := by unfold appE oldF; rw [eo, eg, ← e2, if_neg (by simp), if_neg (by have := HG.out; simp only [DF.fe]; omega), if_neg (by omega)]
      have hL : appL room L s l = putF L ⟨f.s, f.l ++ l, f.n⟩ := by unfold appL oldF oldN; rw [hE, eg, ← e2, e3]; rfl
      exact ⟨by rw [hE]; rfl, by rw [hL]; exact HF.out⟩
end
end Go.Proofs.Ytcmbeolicopicaa

