/- disk: Sync, Read, Cut. -/
import Derived.Test.YtcmbeolicopicaaDNew
namespace Go.Proofs.Ytcmbeolicopicaa
open Go.RowKit Go.Maps Go.ChangeMaps
set_option linter.unusedVariables false
set_option linter.unusedSimpArgs false
set_option maxRecDepth 100000

theorem DBs.look {B : Nat → Prop} {D n : Nat} {room : Int} {L : List FE} {st : DSt} {w : World} (h : DBs B D room L n st w) (s : Nm) (hs : s.length ≤ 1000000) (W : World) (hW : W.heap = w.heap) :
    (Instr.lookup 45 (.map (some st.m)) (nmV s) false).run Try.prog W = .ok (lookV (fdD st s)) W := h.dsk.look s (by unfold maxLen; omega) W hW
theorem fdD_none_of {B : Nat → Prop} {D n : Nat} {room : Int} {L : List FE} {st : DSt} {w : World} (h : DBs B D room L n st w) {s : Nm} (e : fd L s = none) : fdD st s = none := by
  rw [h.fd, Option.map_eq_none_iff] at e; exact e
theorem fdD_some_of {B : Nat → Prop} {D n : Nat} {room : Int} {L : List FE} {st : DSt} {w : World} (h : DBs B D room L n st w) {s : Nm} {g : FE} (e : fd L s = some g) : ∃ (f : DF) (j : Nat), fdD st s = some f ∧ f.fe = g ∧ f.s = s ∧ st.fs[j]? = some f := by
  rw [h.fd] at e
  obtain ⟨f, h1, h2⟩ := Option.map_eq_some_iff.1 e
  obtain ⟨hm, hs⟩ := fdD_some h1
  obtain ⟨j, hj⟩ := List.mem_iff_getElem?.1 hm
  exact ⟨f, j, h1, h2, hs, hj⟩
section
variable {B : Nat → Prop} {D n : Nat} {room : Int} {L : List FE} {st : DSt} {w : World} (h : DBs B D room L n st w) (s : Nm) (hs : s.length ≤ 1000000)
include h hs
theorem with_none (e : fd L s = none) (fv : Value) : Calls Try.prog 21 #[.pointer (some ⟨D, 0, none⟩), nmV s, fv] w fun e w' => e = .returned (.int .i64 6) ∧ w = w' := by
  have hl := h.look s hs w rfl
  rw [fdD_none_of h e] at hl
  unfold lookV at hl
  have hk := known_any D st.m _ w h.dsk.dsk
  have c0 := h.dsk.dsk.cell 0
  simp only [List.getElem?_cons_zero] at c0
  unfold nmV at *
  go_enter Try.func21, Try.ntmps21
  go_wp2_with fail
  (with_reducible refine hk.mono ?_)
  rintro _ _ ⟨rfl, rfl⟩
  clear hk
  go_wp2_with fail
  go_ret
  exact ⟨rfl, rfl⟩
/-- What Sync makes of the files. -/
theorem sync_in {f : DF} {j : Nat} (e : fdD st s = some f) (hj : st.fs[j]? = some f) : Calls Try.prog 8 #[.pointer (some ⟨D, 0, none⟩), nmV s] w fun e w' => e = .returned (.int .i64 0) ∧ DDid B D room (putF L ⟨f.s, f.l, f.l.length⟩) n w w' := by
  have hl := h.look s hs w rfl
  rw [e] at hl
  unfold lookV at hl
  have hk := known_any D st.m _ w h.dsk.dsk
  have c0 := h.dsk.dsk.cell 0
  have hF := h.dsk.file f (List.mem_of_getElem? hj)
  have q0 := hF.bk.cell 0
  have q1 := hF.bk.cell 1
  have z1 := hF.bk.frozen 1
  simp only [List.getElem?_cons_zero, List.getElem?_cons_succ, DF.dv] at c0 q0 q1
  have hfar : ∀ k, k ≠ f.g → (w.setCell ⟨f.g, 1, none⟩ (.int .i64 f.l.length)).heap[k]? = w.heap[k]? := fun k hk => Below.heap_setCell _ _ _ k hk
  have hsz : (w.setCell ⟨f.g, 1, none⟩ (.int .i64 f.l.length)).heap.size = w.heap.size := by simp [World.setCell]
  have hg : f.dv.ownBlock ≠ some f.g := h.dsk.gd (List.mem_of_getElem? hj) (List.mem_of_getElem? hj)
  have hfin := h.setF (w' := w.setCell ⟨f.g, 1, none⟩ (.int .i64 f.l.length)) (f' := ⟨f.s, f.g, f.A, f.c, f.l, f.l.length⟩) hj rfl rfl
    ⟨hF.bk.set 1 _, by
      obtain ⟨b, k1, k2⟩ := hF.dat
      exact ⟨b, k1.keep (fun e => hfar b (fun q => hg (q ▸ e))), fun e => ⟨trivial, by rw [hsz]; exact (k2 e).2⟩⟩, hF.len, Nat.le_refl _, hF.sl⟩
    (fun b e => .inl e) (fun k _ k2 _ => hfar k k2) (by rw [hsz]; exact Nat.le_refl _) ⟨rfl, rfl, rfl⟩
  have hfl := hF.len
  have hcl : Calls Try.prog 22 #[f.val] w fun e w' => e = .returned (.int .i64 0) ∧ w' = w.setCell ⟨f.g, 1, none⟩ (.int .i64 f.l.length) := by
    clear hfin hfar hsz hl hk
    unfold DF.val
    go_enter Try.func22, Try.ntmps22
    go_wp2_with fail
    go_ret
    exact ⟨rfl, rfl⟩
  have hw : Calls Try.prog 21 #[.pointer (some ⟨D, 0, none⟩), nmV s, .func (.func 22) #[] #[]] w fun e w' => e = .returned (.int .i64 0) ∧ w' = w.setCell ⟨f.g, 1, none⟩ (.int .i64 f.l.length) := by
    clear hfin hfar hsz
    unfold DF.val at hl hcl
    unfold nmV at *
    go_enter Try.func21, Try.ntmps21
    go_wp2_with fail
    (with_reducible refine hk.mono ?_)
    rintro _ _ ⟨rfl, rfl⟩
    clear hk
    go_wp2_with fail
    (with_reducible refine hcl.mono ?_)
    rintro _ _ ⟨rfl, rfl⟩
    clear hcl hl
    go_wp2_with fail
    go_ret
    exact ⟨rfl, rfl⟩
  clear hcl hl hk
  unfold nmV at *
  go_enter Try.func8, Try.ntmps8
  go_wp2_with fail
  (with_reducible refine hw.mono ?_)
  rintro _ _ ⟨rfl, rfl⟩
  go_wp2_with fail
  go_ret
  exact ⟨rfl, hfin⟩
theorem sync_out (e : fd L s = none) : Calls Try.prog 8 #[.pointer (some ⟨D, 0, none⟩), nmV s] w fun e w' => e = .returned (.int .i64 6) ∧ w = w' := by
  have hw := with_none h s hs e (.func (.func 22) #[] #[])
  unfold nmV at *
  go_enter Try.func8, Try.ntmps8
  go_wp2_with fail
  (with_reducible refine hw.mono ?_)
  rintro _ _ ⟨rfl, rfl⟩
  go_wp2_with fail
  go_ret
  exact ⟨rfl, rfl⟩
end
section
variable {D : Nat} {st : DSt} {W : World} (h : DskAt W D st) (s : Nm) (hs : s.length ≤ 1000000)
include h hs
/-- with, at a file, of a function that ends so. -/
theorem read_with {f : DF} {j X : Nat} {v0 : Value} (e : fdD st s = some f) (hj : st.fs[j]? = some f) (hX : Bk W X 29 [v0]) : Calls Try.prog 21 #[.pointer (some ⟨D, 0, none⟩), nmV s, .func (.func 25) #[] #[.pointer (some ⟨X, 0, none⟩)]] W fun e w' => e = .returned (.int .i64 0) ∧ ∃ A c w2, w' = w2.setCell ⟨X, 0, none⟩ (.slice A f.l.length c) ∧ Dat w2 (fun b => W.heap.size ≤ b) A c f.l ∧ Below W.heap.size W w2 := by
  have hl := h.look s (by unfold maxLen; omega) W rfl
  rw [e] at hl
  unfold lookV at hl
  have hk := known_any D st.m _ W h.dsk
  have c0 := h.dsk.cell 0
  have hF := h.file f (List.mem_of_getElem? hj)
  have q0 := hF.bk.cell 0
  simp only [List.getElem?_cons_zero, List.getElem?_cons_succ, DF.dv] at c0 q0
  have hfl := hF.len
  obtain ⟨hrd, hlc, hcm⟩ := hF.dat.rd
  have hcn := clone_any _ f.A f.c f.l W hrd (by omega)
  have hcl : Calls Try.prog 25 #[f.val, .pointer (some ⟨X, 0, none⟩)] W fun e w' => e = .returned (.int .i64 0) ∧ ∃ A c w2, w' = w2.setCell ⟨X, 0, none⟩ (.slice A f.l.length c) ∧ Dat w2 (fun b => W.heap.size ≤ b) A c f.l ∧ Below W.heap.size W w2 := by
    clear hl hk
    unfold DF.val
    go_enter Try.func25, Try.ntmps25
    go_wp2_with fail
    (with_reducible refine hcn.mono ?_)
    rintro _ w2 ⟨A, c, rfl, hd, hb⟩
    have hX2 := hX.below hb hX.lt
    have x0 := hX2.cell 0
    have z0 := hX2.frozen 0
    simp only [List.getElem?_cons_zero] at x0
    clear hcn
    go_wp2_with fail
    go_ret
    exact ⟨rfl, A, c, w2, rfl, hd, hb⟩
  clear hcn hrd
  unfold DF.val at hl hcl
  unfold nmV at *
  go_enter Try.func21, Try.ntmps21
  go_wp2_with fail
  (with_reducible refine hk.mono ?_)
  rintro _ _ ⟨rfl, rfl⟩
  clear hk
  go_wp2_with fail
  (with_reducible refine hcl.mono ?_)
  rintro _ _ ⟨rfl, A, c, w2, rfl, hd, hb⟩
  clear hcl hl
  go_wp2_with fail
  go_ret
  exact ⟨rfl, A, c, w2, rfl, hd, hb⟩
end
section
variable {B : Nat → Prop} {D n : Nat} {room : Int} {L : List FE} {st : DSt} {w : World} (h : DBs B D room L n st w) (s : Nm) (hs : s.length ≤ 1000000)
include h hs
theorem read_in {f : DF} {j : Nat} (e : fdD st s = some f) (hj : st.fs[j]? = some f) : Calls Try.prog 11 #[.pointer (some ⟨D, 0, none⟩), nmV s] w fun e w' => ∃ A c, e = .returned (.tuple #[.slice A f.l.length c, .int .i64 0]) ∧ Dat w' (fun b => w.heap.size ≤ b) A c f.l ∧ Below w.heap.size w w' := by
  have hb1 : Below w.heap.size w (w.alloc (.cells #[.slice none 0 0] 29)) := (Below.refl _ _).alloc (Nat.le_refl _) _
  have hX : Bk (w.alloc (.cells #[.slice none 0 0] 29)) w.heap.size 29 [.slice none 0 0] := Bk.new w 29 [.slice none 0 0]
  have hw := read_with (h.dsk.below hb1) s hs e hj hX
  unfold nmV at *
  go_enter Try.func11, Try.ntmps11
  go_wp2_with fail
  generalize (w.alloc (.cells #[.slice none 0 0] 29)) = w1 at *
  (with_reducible refine hw.mono ?_)
  rintro _ _ ⟨rfl, A, c, w2, rfl, hd, hb⟩
  clear hw
  have hX2 := hX.below hb hX.lt
  have hX3 := hX2.set 0 (.slice A f.l.length c)
  have x0 := hX3.cell 0
  have z0 := hX3.frozen 0
  have hs1 : w.heap.size < w1.heap.size := hX.lt
  have hd3 : Dat (w2.setCell ⟨w.heap.size, 0, none⟩ (.slice A f.l.length c)) (fun b => w.heap.size < b) A c f.l := hd.keep (fun b q _ => Below.heap_setCell _ _ _ b (fun e => by have e : b = w.heap.size := e; omega)) (by simp [World.setCell]) (fun b q _ => by omega)
  have hb3 : Below w.heap.size w (w2.setCell ⟨w.heap.size, 0, none⟩ (.slice A f.l.length c)) := (hb1.trans (hb.mono (by omega))).setCell (p := ⟨w.heap.size, 0, none⟩) (Nat.le_refl _) _
  simp only [List.getElem?_cons_zero, List.set_cons_zero] at x0
  generalize w2.setCell ⟨w.heap.size, 0, none⟩ (.slice A f.l.length c) = w3 at *
  have hX4 := hX3.set 0 (.slice A f.l.length c)
  have y0 := hX4.cell 0
  simp only [List.getElem?_cons_zero, List.set_cons_zero] at y0
  have hd4 : Dat (w3.setCell ⟨w.heap.size, 0, none⟩ (.slice A f.l.length c)) (fun b => w.heap.size ≤ b) A c f.l := hd3.keep (fun b q _ => Below.heap_setCell _ _ _ b (fun e => by have e : b = w.heap.size := e; omega)) (by simp [World.setCell]) (fun b q _ => by omega)
  have hb4 := hb3.setCell (p := ⟨w.heap.size, 0, none⟩) (Nat.le_refl _) (.slice A f.l.length c)
  go_wp2_with fail
  exact bodyPost_ret (v := .tuple #[.slice A f.l.length c, .int .i64 0]) (by simp [results, Try.results11, go_sem, y0]) rfl ⟨A, c, rfl, hd4, hb4⟩
theorem read_out (e : fd L s = none) : Calls Try.prog 11 #[.pointer (some ⟨D, 0, none⟩), nmV s] w fun e w' => e = .returned (.tuple #[.slice none 0 0, .int .i64 6]) ∧ Below w.heap.size w w' := by
  have hb1 : Below w.heap.size w (w.alloc (.cells #[.slice none 0 0] 29)) := (Below.refl _ _).alloc (Nat.le_refl _) _
  have hX : Bk (w.alloc (.cells #[.slice none 0 0] 29)) w.heap.size 29 [.slice none 0 0] := Bk.new w 29 [.slice none 0 0]
  have h1 : DBs (fun j => B j ∧ j < w.heap.size) D room L n st w := ⟨h.dsk, h.room, h.perm, h.srt, fun j q => ⟨h.own j q, h.lt j (h.own j q)⟩, ⟨h.hD, h.lt _ h.hD⟩, fun j q => q.2, h.few, h.nn, h.len⟩
  have h2 : DBs (fun j => B j ∧ j < w.heap.size) D room L n st (w.alloc (.cells #[.slice none 0 0] 29)) := ⟨h.dsk.below hb1, h.room, h.perm, h.srt, h1.own, h1.hD, fun j q => Nat.lt_of_lt_of_le q.2 hb1.size, h.few, h.nn, h.len⟩
  have hw := with_none h2 s hs e (.func (.func 25) #[] #[.pointer (some ⟨w.heap.size, 0, none⟩)])
  unfold nmV at *
  go_enter Try.func11, Try.ntmps11
  go_wp2_with fail
  generalize (w.alloc (.cells #[.slice none 0 0] 29)) = w1 at *
  (with_reducible refine hw.mono ?_)
  rintro _ _ ⟨rfl, rfl⟩
  clear hw
  have x0 := hX.cell 0
  have z0 := hX.frozen 0
  simp only [List.getElem?_cons_zero] at x0
  have y0 := (hX.set 0 (.slice none 0 0)).cell 0
  simp only [List.getElem?_cons_zero, List.set_cons_zero] at y0
  have hb4 := hb1.setCell (p := ⟨w.heap.size, 0, none⟩) (Nat.le_refl _) (.slice none 0 0)
  go_wp2_with fail
  exact bodyPost_ret (v := .tuple #[.slice none 0 0, .int .i64 6]) (by simp [results, Try.results11, go_sem, y0]) rfl ⟨rfl, hb4⟩
end
end Go.Proofs.Ytcmbeolicopicaa
