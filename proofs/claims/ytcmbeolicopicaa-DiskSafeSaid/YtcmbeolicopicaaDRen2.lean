/- disk: Rename, whole. -/
import Derived.Test.YtcmbeolicopicaaDRen
namespace Go.Proofs.Ytcmbeolicopicaa
open Go.RowKit Go.Maps Go.ChangeMaps
set_option linter.unusedVariables false
set_option linter.unusedSimpArgs false
set_option maxRecDepth 100000

section
variable {B : Nat → Prop} {D n : Nat} {room : Int} {L : List FE} {st : DSt} {W : World} (h : DBs B D room L n st W) (s t : Nm) (hs : s.length ≤ 1000000) (ht : t.length ≤ 24)
include h hs ht
theorem rename_with {f : DF} {j bd bf bt : Nat} (e : fdD st s = some f) (hj : st.fs[j]? = some f) (hd : Bk W bd 24 [.pointer (some ⟨D, 0, none⟩)]) (hf : Bk W bf 9 [nmV s]) (hn : Bk W bt 9 [nmV t]) :
    Calls Try.prog 21 #[.pointer (some ⟨D, 0, none⟩), nmV s, .func (.func 32) #[] #[.pointer (some ⟨bd, 0, none⟩), .pointer (some ⟨bf, 0, none⟩), .pointer (some ⟨bt, 0, none⟩)]] W fun e w' => e = .returned (.int .i64 0) ∧ (∃ st', DBs B D room (putF (delF L s) ⟨t, f.l, f.n⟩) n st' w') ∧ Lv B W w' := by
  have hcl := rename1 h s t hs ht e hj hd hf hn
  have hl := h.look s hs W rfl
  rw [e] at hl
  unfold lookV at hl
  have hk := known_any D st.m _ W h.dsk.dsk
  have c0 := h.dsk.dsk.cell 0
  simp only [List.getElem?_cons_zero] at c0
  unfold DF.val at hl hcl
  unfold nmV at *
  go_enter Try.func21, Try.ntmps21
  go_wp2_with fail
  (with_reducible refine hk.mono ?_)
  rintro _ _ ⟨rfl, rfl⟩
  clear hk
  go_wp2_with fail
  (with_reducible refine hcl.mono ?_)
  rintro _ w2 ⟨rfl, hb⟩
  clear hcl hl
  go_wp2_with fail
  go_ret
  exact ⟨rfl, hb⟩
end
/-- The boxes of a call. -/
structure Boxes (w w1 : World) (D : Nat) (s t : Nm) : Prop where
  b1 : Bk w1 w.heap.size 24 [.pointer (some ⟨D, 0, none⟩)]
  b2 : Bk w1 (w.heap.size + 1) 9 [nmV s]
  b3 : Bk w1 (w.heap.size + 2) 9 [nmV t]
  low : Below w.heap.size w w1
theorem Boxes.go (w : World) (D : Nat) (s t : Nm) : Boxes w (((w.alloc (.cells #[.pointer (some ⟨D, 0, none⟩)] 24)).alloc (.cells #[nmV s] 9)).alloc (.cells #[nmV t] 9)) D s t := by
  have hb1 : Below w.heap.size w ((w.alloc (.cells #[.pointer (some ⟨D, 0, none⟩)] 24)).alloc (.cells #[nmV s] 9)) := ((Below.refl _ _).alloc (Nat.le_refl _) _).alloc (by simp) _
  have hd : Bk ((w.alloc (.cells #[.pointer (some ⟨D, 0, none⟩)] 24)).alloc (.cells #[nmV s] 9)) w.heap.size 24 [.pointer (some ⟨D, 0, none⟩)] := (heap_alloc_old _ _ (by simp)).trans (heap_alloc_new w _)
  have hn : Bk ((w.alloc (.cells #[.pointer (some ⟨D, 0, none⟩)] 24)).alloc (.cells #[nmV s] 9)) (w.heap.size + 1) 9 [nmV s] := by
    have := Bk.new (w.alloc (.cells #[.pointer (some ⟨D, 0, none⟩)] 24)) 9 [nmV s]
    rwa [World.size_alloc] at this
  have hsz : ((w.alloc (.cells #[.pointer (some ⟨D, 0, none⟩)] 24)).alloc (.cells #[nmV s] 9)).heap.size = w.heap.size + 2 := by simp
  refine ⟨(heap_alloc_old _ _ (by omega)).trans hd, (heap_alloc_old _ _ (by omega)).trans hn, ?_, hb1.alloc (by omega) _⟩
  have := Bk.new ((w.alloc (.cells #[.pointer (some ⟨D, 0, none⟩)] 24)).alloc (.cells #[nmV s] 9)) 9 [nmV t]
  rwa [hsz] at this
theorem Boxes.below {w w1 w2 : World} {D : Nat} {s t : Nm} (h : Boxes w w1 D s t) (hb : Below w1.heap.size w1 w2) : Boxes w w2 D s t :=
  ⟨h.b1.below hb h.b1.lt, h.b2.below hb h.b2.lt, h.b3.below hb h.b3.lt, h.low.trans (hb.mono h.low.size)⟩
theorem rd_new (w : World) (t : TypeId) (vs : List Value) : Rd (w.alloc (.cells vs.toArray t)) (fun b => b = w.heap.size) (some ⟨w.heap.size, 0, none⟩) vs.length vs :=
  ⟨fun e => (by cases e), fun _ => ⟨_, rfl, rfl, news_new w vs t⟩⟩
theorem okN_len {s : Nm} (h : okN s = true) : s.length ≤ 24 := by
  unfold okN at h
  rw [Bool.and_eq_true, decide_eq_true_eq] at h
  exact h.1.2
def renE (L : List FE) (s t : Nm) : Int := if !(okN s && okN t) then 2 else if (fd L s).isSome then 0 else 6
def renL (L : List FE) (s t : Nm) : List FE := match okN s && okN t, fd L s with
  | true, some f => putF (delF L s) ⟨t, f.l, f.n⟩
  | _, _ => L
section
variable {B : Nat → Prop} {D n : Nat} {room : Int} {L : List FE} {w : World} (h : DB B D room L n w) (s t : Nm) (hs : s.length ≤ 1000000) (ht : t.length ≤ 1000000)
include h hs ht
theorem op_rename : Calls Try.prog 18 #[.pointer (some ⟨D, 0, none⟩), nmV s, nmV t] w fun e w' => e = .returned (.int .i64 (renE L s t)) ∧ DDid B D room (renL L s t) n w w' := by
  have hbx := Boxes.go w D s t
  obtain ⟨st, h⟩ := h
  have h1 := h.below hbx.low
  have hk := known_any D st.m _ _ h1.dsk.dsk
  unfold nmV at *
  go_enter Try.func18, Try.ntmps18
  go_wp2_with fail
  generalize ((w.alloc (.cells #[.pointer (some ⟨D, 0, none⟩)] 24)).alloc (.cells #[.string ⟨s.toArray⟩] 9)).alloc (.cells #[.string ⟨t.toArray⟩] 9) = w1 at *
  have c1 := hbx.b1.cell 0
  have c2 := hbx.b2.cell 0
  have c3 := hbx.b3.cell 0
  simp only [List.getElem?_cons_zero] at c1 c2 c3
  have hr := right_any _ _ _ [s, t] _ (rd_new w1 9 [nmV s, nmV t]) (by rintro b rfl; simp) (by simp; omega) (by simp)
  simp only [List.length_cons, List.length_nil, Nat.zero_add, Nat.reduceAdd] at hr
  have hb2 : Below w1.heap.size w1 (w1.alloc (.cells #[nmV s, nmV t] 9)) := (Below.refl _ _).alloc (Nat.le_refl _) _
  unfold nmV at *
  go_wp2_with fail
  (with_reducible refine hk.mono ?_)
  rintro _ _ ⟨rfl, rfl⟩
  clear hk
  go_wp2_with fail
  (with_reducible refine hr.mono ?_)
  rintro _ w2 ⟨rfl, hb3⟩
  clear hr
  have hb4 := hb2.trans (hb3.mono hb2.size)
  have hbx2 := hbx.below hb4
  have h2 := h1.below hb4
  cases eo : okN s && okN t
  · have : [s, t].all okN = false := by simpa using eo
    rw [this]
    unfold nmV at *
    go_wp2_with fail
    go_ret
    refine ⟨by unfold renE; rw [eo]; rfl, ?_⟩
    have : renL L s t = L := by unfold renL; rw [eo]
    rw [this]
    exact DDid.same ⟨st, h⟩ (hbx2.low)
  · have : [s, t].all okN = true := by simpa using eo
    rw [this]
    have d1 := hbx2.b1.cell 0
    have d2 := hbx2.b2.cell 0
    simp only [List.getElem?_cons_zero] at d1 d2
    cases e : fd L s with
    | none =>
      have hw := with_none h2 s hs e (.func (.func 32) #[] #[.pointer (some ⟨w.heap.size, 0, none⟩), .pointer (some ⟨w.heap.size + 1, 0, none⟩), .pointer (some ⟨w.heap.size + 2, 0, none⟩)])
      have hE : renE L s t = 6 := by unfold renE; rw [eo, e]; rfl
      have hL : renL L s t = L := by unfold renL; rw [eo, e]
      have HF := Lib.hid (DDid.same ⟨st, h⟩ hbx2.low)
      unfold nmV at *
      go_wp2_with fail
      (with_reducible refine hw.mono ?_)
      rintro _ _ ⟨rfl, rfl⟩
      clear hw
      go_wp2_with fail
      go_ret
      exact ⟨by rw [hE]; rfl, by rw [hL]; exact HF.out⟩
    | some g =>
      obtain ⟨f, j, e1, e2, _, hj⟩ := fdD_some_of h e
      have hw := rename_with h2 s t hs (okN_len (by rw [Bool.and_eq_true] at eo; exact eo.2)) e1 hj hbx2.b1 hbx2.b2 hbx2.b3
      have hE : renE L s t = 0 := by unfold renE; rw [eo, e]; rfl
      have hL : renL L s t = putF (delF L s) ⟨t, f.l, f.n⟩ := by unfold renL; rw [eo, e, ← e2]; rfl
      have HF := Lib.hid hbx2.low
      unfold nmV at *
      go_wp2_with fail
      (with_reducible refine hw.mono ?_)
      rintro _ w3 ⟨rfl, q1, q2⟩
      clear hw
      go_wp2_with fail
      go_ret
      exact ⟨by rw [hE]; rfl, by rw [hL]; exact ⟨B, fun _ q => .inl q, q1, (Below.lv HF.out).trans q2 (fun _ q => .inl q)⟩⟩
end
end Go.Proofs.Ytcmbeolicopicaa

