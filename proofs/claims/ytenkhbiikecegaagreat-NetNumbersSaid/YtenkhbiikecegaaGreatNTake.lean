/- net: Take, Drop, Double. -/
import Derived.Test.YtenkhbiikecegaaGreatNWithIn
import Derived.Test.YtenkhbiikecegaaGreatNSend
namespace Go.Proofs.YtenkhbiikecegaaGreat
open Go.RowKit Go.Maps Go.ChangeMaps
set_option linter.unusedVariables false
set_option linter.unusedSimpArgs false
set_option maxRecDepth 100000

theorem NetAt.set_far {w : World} {K : Nat → Prop} {N : Nat} {st : NSt} (h : NetAt w K N st) {O : Nat} {t : TypeId} {cs : List Value} (hO : Bk w O t cs) (ht : t ≠ 5) (h1 : ¬ NOwn st O) (h2 : O ≠ N) (i : Nat) (u : Value) : NetAt (w.setCell ⟨O, i, none⟩ u) K N st := by
  refine h.narrow.keep (Below.heap_setCell w _ u N (fun e => h2 e.symm)) (fun k hk => Below.heap_setCell w _ u k (fun e => h1 (by have e' : k = O := e; exact e' ▸ hk))) (fun b hb _ => Below.heap_setCell w _ u b ?_) (by simp) (fun b hb _ => hb.1)
  rintro rfl
  obtain ⟨x, o, e⟩ := hb.2
  rw [hO] at e
  injection e with e; injection e with _ e
  exact ht e
/-- Take's inner function. -/
theorem take1_any {K_ : Nat → Prop} {N : Nat} {st : NSt} (a b : Int) (ha : I64 a) (hb : I64 b) (k : Nat) (p : PV) (hp : (sig st a b)[k]? = some p) (O BN L AT : Nat) (v0 : Value) (W : World) (h : NetAt W K_ N st)
    (hO : Bk W O 28 [v0]) (hBN : Bk W BN 23 [.pointer (some ⟨N, 0, none⟩)]) (hL : Bk W L 58 [.int .i64 a, .int .i64 b]) (hAT : Bk W AT 3 [.int .i64 k]) (hO1 : ¬ NOwn st O) (hO2 : O ≠ N) (n1 : BN ≠ O) (n2 : L ≠ O) (n3 : AT ≠ O) :
    Calls Tryz.prog 41 #[p.val, .pointer (some ⟨O, 0, none⟩), .pointer (some ⟨BN, 0, none⟩), .pointer (some ⟨L, 0, none⟩), .pointer (some ⟨AT, 0, none⟩)] W fun e w' => ∃ c, e = .returned (.int .i64 c) ∧ (c = 0 ∧ Bk w' O 28 [p.val] ∧ (∃ st', NetAt w' K_ N st' ∧ (∀ x y, sig st' x y = if a = x ∧ b = y then (sig st a b).eraseIdx k else sig st x y) ∧ (∀ j, NOwn st' j → NOwn st j)) ∧ w'.os = W.os ∧ w'.tape = W.tape ∧ w'.output = W.output ∧ W.heap.size ≤ w'.heap.size ∧ ∀ j, j < W.heap.size → ¬ NOwn st j → j ≠ O → w'.heap[j]? = W.heap[j]?) ∧ ∀ j, j < W.heap.size → ¬ NOwn st j → j ≠ O → w'.heap[j]? = W.heap[j]? := by
  have hk : k < (sig st a b).length := (List.getElem?_eq_some_iff.1 hp).1
  have z0 := hO.cell 0
  have f0 := hO.frozen 0
  simp only [List.getElem?_cons_zero] at z0
  unfold PV.val
  go_enter Tryz.func41, Tryz.ntmps41
  go_wp2_with fail
  have hn := h.set_far hO (by decide) hO1 hO2 0 (.slice p.A p.l.length p.c)
  have hO' : Bk (W.setCell ⟨O, 0, none⟩ (.slice p.A p.l.length p.c)) O 28 [.slice p.A p.l.length p.c] := hO.set 0 _
  have kB : ∀ j, j ≠ O → (W.setCell ⟨O, 0, none⟩ (.slice p.A p.l.length p.c)).heap[j]? = W.heap[j]? := fun j e => Below.heap_setCell W _ _ j e
  have c0 := (hBN.far (p := ⟨O, 0, none⟩) n1 (.slice p.A p.l.length p.c)).cell 0
  have c1 := (hL.far (p := ⟨O, 0, none⟩) n2 (.slice p.A p.l.length p.c)).cell 0
  have c2 := (hL.far (p := ⟨O, 0, none⟩) n2 (.slice p.A p.l.length p.c)).cell 1
  have c3 := (hAT.far (p := ⟨O, 0, none⟩) n3 (.slice p.A p.l.length p.c)).cell 0
  simp only [List.getElem?_cons_zero, List.getElem?_cons_succ] at c0 c1 c2 c3
  have hs : (W.setCell ⟨O, 0, none⟩ (.slice p.A p.l.length p.c)).heap.size = W.heap.size := by simp
  have ho : (W.setCell ⟨O, 0, none⟩ (.slice p.A p.l.length p.c)).os = W.os ∧ (W.setCell ⟨O, 0, none⟩ (.slice p.A p.l.length p.c)).tape = W.tape ∧ (W.setCell ⟨O, 0, none⟩ (.slice p.A p.l.length p.c)).output = W.output := by
    have q := (Below.refl 0 W).setCell (p := ⟨O, 0, none⟩) (Nat.zero_le _) (.slice p.A p.l.length p.c)
    exact ⟨q.os, q.tape, q.output⟩
  generalize (W.setCell ⟨O, 0, none⟩ (.slice p.A p.l.length p.c)) = W1 at *
  have HP := Lib.hid hp
  have HS := Lib.hid hs
  have HO := Lib.hid ho
  have HB := Lib.hid kB
  clear hp hs ho kB
  have hcut := cut_any (K_ := K_) (N := N) (st := st) a b ha hb k W1.drew (hn.heap_ rfl) hk
  unfold linkV at hcut
  go_still_tail 5, (by kernel_rfl)
  go_wp2_with ((with_reducible refine hcut.mono ?_); rintro _ w5 ⟨⟨r9, rfl⟩, st', g1, g2, g3, g4⟩)
  go_ret
  have hs := HS.out
  have hOl := hO'.lt
  have kb : ∀ j, j < W.heap.size → ¬ NOwn st j → j ≠ O → w5.heap[j]? = W.heap[j]? := fun j j1 j2 j3 => (g4.block j (show j < W1.heap.size by omega) j2).trans (HB.out j j3)
  refine ⟨0, rfl, ⟨rfl, (g4.block O hOl hO1).trans hO', ⟨st', g1, g2, g3⟩, g4.os.trans HO.out.1, g4.tape.trans HO.out.2.1, g4.output.trans HO.out.2.2, ?_, kb⟩, kb⟩
  have := g4.size
  rw [show W1.drew.heap.size = W1.heap.size from rfl] at this
  omega
/-- What a double is answered, where there is such a packet. -/
def dblE (n : Nat) : Int := if 64 ≤ n then 5 else 0
/-- Double's inner function. -/
theorem double1_any {K_ : Nat → Prop} {N : Nat} {st : NSt} (a b : Int) (ha : I64 a) (hb : I64 b) (k : Nat) (p : PV) (hp : (sig st a b)[k]? = some p) (BN L : Nat) (W : World) (h : NetAt W K_ N st)
    (hBN : Bk W BN 23 [.pointer (some ⟨N, 0, none⟩)]) (hL : Bk W L 58 [.int .i64 a, .int .i64 b]) :
    Calls Tryz.prog 40 #[p.val, .pointer (some ⟨BN, 0, none⟩), .pointer (some ⟨L, 0, none⟩)] W fun e w' => ∃ c, e = .returned (.int .i64 c) ∧ (c = dblE (sig st a b).length ∧ ∃ st', NetAt w' (fun j => K_ j ∨ W.heap.size ≤ j) N st' ∧ (∃ p' : PV, p'.l = p.l ∧ ∀ x y, sig st' x y = if a = x ∧ b = y ∧ dblE (sig st a b).length = 0 then sig st a b ++ [p'] else sig st x y) ∧ (∀ j, NOwn st' j → NOwn st j ∨ W.heap.size ≤ j) ∧ Nw st W w') := by
  have c0 := hBN.cell 0
  have c1 := hL.cell 0
  have c2 := hL.cell 1
  simp only [List.getElem?_cons_zero, List.getElem?_cons_succ] at c0 c1 c2
  have HP := Lib.hid (h.dat_at hp)
  have hfull := full_any (K := K_) a b ha hb W.drew (h.heap_ rfl)
  unfold PV.val
  unfold linkV at hfull
  clear hp
  by_cases h2 : 64 ≤ (sig st a b).length
  · have he : dblE (sig st a b).length = 5 := by simp [dblE, h2]
    rw [decide_eq_true h2] at hfull
    have HE := Lib.hid he
    clear he
    go_enter Tryz.func40, Tryz.ntmps40
    go_wp2_with fail
    go_still_tail 4, (by kernel_rfl)
    go_wp2_with ((with_reducible refine hfull.mono ?_); rintro _ w5 ⟨rfl, hb2⟩)
    go_ret
    have hb2' : Below W.heap.size W w5 := (Below.refl _ _).drew.trans hb2
    refine ⟨5, rfl, HE.out.symm, st, (h.below hb2').mono (fun _ q _ => .inl q), ⟨⟨none, 0, p.l⟩, rfl, fun x y => ?_⟩, fun _ q => .inl q, Nw.of hb2'⟩
    rw [HE.out]
    simp
  · have he : dblE (sig st a b).length = 0 := by simp [dblE, h2]
    have hl : (sig st a b).length < 64 := by omega
    rw [decide_eq_false h2] at hfull
    have HE := Lib.hid he
    clear he
    go_enter Tryz.func40, Tryz.ntmps40
    go_wp2_with fail
    go_still_tail 4, (by kernel_rfl)
    go_wp2_with ((with_reducible refine hfull.mono ?_); rintro _ w5 ⟨rfl, hb2⟩; have hb2' : Below W.heap.size W w5 := (Below.refl _ _).drew.trans hb2; have q0 := (hBN.below hb2' hBN.lt).cell 0; have q1 := (hL.below hb2' hL.lt).cell 0; have q2 := (hL.below hb2' hL.lt).cell 1; simp only [List.getElem?_cons_zero, List.getElem?_cons_succ] at q0 q1 q2)
    have hd := HP.out.1.rd
    have hn5 := h.below hb2'
    have hr5 : Rd w5.drew (fun j => K_ j ∧ j < W.heap.size) p.A p.c (u8s p.l) := hd.1.keep (fun j hj => hb2'.block j hj.2) (fun _ q => q)
    have hput := put_any (KP := fun j => K_ j ∧ j < W.heap.size) a b ha hb p.A p.c p.l w5.drew (hn5.heap_ (w' := w5.drew) rfl) hr5 (fun j hj => Nat.lt_of_lt_of_le hj.2 hb2'.size) HP.out.2 hl
    unfold linkV at hput
    clear hd hr5
    go_still_tail 5, (by kernel_rfl)
    go_wp2_with ((with_reducible refine hput.mono ?_); rintro _ w6 ⟨⟨r9, rfl⟩, st', p', g0, g1, g2, g3, g4⟩)
    go_ret
    have hs5 : W.heap.size ≤ w5.drew.heap.size := hb2'.size
    refine ⟨0, rfl, HE.out.symm, st', g1.mono (fun j q _ => q.imp id (fun q => Nat.le_trans hs5 q)), ⟨p', g0, fun x y => ?_⟩, fun j q => (g3 j q).imp id (fun q => Nat.le_trans hs5 q), Nw.after hb2'.drew g4⟩
    rw [HE.out, g2]
    simp
theorem new4 (w : World) (c1 c2 c3 c4 : List Value) (t1 t2 t3 t4 : TypeId) : ∃ W, W = (((w.alloc (.cells c1.toArray t1)).alloc (.cells c2.toArray t2)).alloc (.cells c3.toArray t3)).alloc (.cells c4.toArray t4) ∧ Bk W w.heap.size t1 c1 ∧ Bk W (w.heap.size + 1) t2 c2 ∧ Bk W (w.heap.size + 1 + 1) t3 c3 ∧ Bk W (w.heap.size + 1 + 1 + 1) t4 c4 ∧ Below w.heap.size w W ∧ W.heap.size = w.heap.size + 4 := by
  refine ⟨_, rfl, ?_, ?_, ?_, ?_, ((((Below.refl _ w).alloc (Nat.le_refl _) _).alloc (by simp) _).alloc (by simp <;> omega) _).alloc (by simp <;> omega) _, by simp⟩
  · exact (heap_alloc_old _ _ (by simp <;> omega)).trans ((heap_alloc_old _ _ (by simp <;> omega)).trans ((heap_alloc_old _ _ (by simp)).trans (Bk.new w t1 c1)))
  · have := Bk.new (w.alloc (.cells c1.toArray t1)) t2 c2
    rw [World.size_alloc] at this
    exact (heap_alloc_old _ _ (by simp <;> omega)).trans ((heap_alloc_old _ _ (by simp)).trans this)
  · have := Bk.new ((w.alloc (.cells c1.toArray t1)).alloc (.cells c2.toArray t2)) t3 c3
    rw [World.size_alloc, World.size_alloc] at this
    exact (heap_alloc_old _ _ (by simp)).trans this
  · have := Bk.new (((w.alloc (.cells c1.toArray t1)).alloc (.cells c2.toArray t2)).alloc (.cells c3.toArray t3)) t4 c4
    rw [World.size_alloc, World.size_alloc, World.size_alloc] at this
    exact this
theorem new2 (w : World) (c1 c2 : List Value) (t1 t2 : TypeId) : ∃ W, W = (w.alloc (.cells c1.toArray t1)).alloc (.cells c2.toArray t2) ∧ Bk W w.heap.size t1 c1 ∧ Bk W (w.heap.size + 1) t2 c2 ∧ Below w.heap.size w W ∧ W.heap.size = w.heap.size + 2 := by
  refine ⟨_, rfl, ?_, ?_, ((Below.refl _ w).alloc (Nat.le_refl _) _).alloc (by simp) _, by simp⟩
  · exact (heap_alloc_old _ _ (by simp)).trans (Bk.new w t1 c1)
  · have := Bk.new (w.alloc (.cells c1.toArray t1)) t2 c2
    rw [World.size_alloc] at this
    exact this
/-- Take, where there is such a packet. -/
theorem Take_in {K_ : Nat → Prop} {N : Nat} {st : NSt} (a b : Int) (ha : I64 a) (hb : I64 b) (k : Nat) (p : PV) (hp : (sig st a b)[k]? = some p) (w : World) (h : NetAt w K_ N st) :
    Calls Tryz.prog 17 #[.pointer (some ⟨N, 0, none⟩), .int .i64 a, .int .i64 b, .int .i64 k] w fun e w' => e = .returned (.tuple #[p.val, .int .i64 0]) ∧ ∃ st', NetAt w' K_ N st' ∧ (∀ x y, sig st' x y = if a = x ∧ b = y then (sig st a b).eraseIdx k else sig st x y) ∧ (∀ j, NOwn st' j → NOwn st j) ∧ Nw st w w' := by
  have HP := Lib.hid hp
  clear hp
  go_enter Tryz.func17, Tryz.ntmps17
  go_wp2_with fail
  obtain ⟨W, hW, b1, b2, b3, b4, bel, hsz⟩ := new4 w [.pointer (some ⟨N, 0, none⟩)] [.int .i64 k] [.slice none 0 0] [.int .i64 a, .int .i64 b] 23 3 28 58
  rw [← hW]
  clear hW
  have hn := h.below bel
  have hNl := h.net.lt
  have hO1 : ¬ NOwn st (w.heap.size + 1 + 1) := fun e => by have := h.olt e; omega
  refine (with_take a b ha hb k p HP.out _ _ _ _ (w.heap.size + 1 + 1) (fun c w' => c = 0 ∧ Bk w' (w.heap.size + 1 + 1) 28 [p.val] ∧ (∃ st', NetAt w' K_ N st' ∧ (∀ x y, sig st' x y = if a = x ∧ b = y then (sig st a b).eraseIdx k else sig st x y) ∧ (∀ j, NOwn st' j → NOwn st j)) ∧ w'.os = W.os ∧ w'.tape = W.tape ∧ w'.output = W.output ∧ W.heap.size ≤ w'.heap.size ∧ ∀ j, j < W.heap.size → ¬ NOwn st j → j ≠ w.heap.size + 1 + 1 → w'.heap[j]? = W.heap[j]?) W hn (by omega) (by omega) (fun W' bl => ?_)).mono ?_
  · refine (take1_any a b ha hb k p HP.out (w.heap.size + 1 + 1) w.heap.size (w.heap.size + 1 + 1 + 1) (w.heap.size + 1) _ W' (hn.below bl) (b3.below bl b3.lt) (b1.below bl b1.lt) (b4.below bl b4.lt) (b2.below bl b2.lt) hO1 (by omega) (by omega) (by omega) (by omega)).mono ?_
    rintro e w' ⟨c, rfl, ⟨q1, q2, q3, q4, q5, q6, q7, q8⟩, q9⟩
    exact ⟨c, rfl, ⟨q1, q2, q3, q4.trans bl.os, q5.trans bl.tape, q6.trans bl.output, Nat.le_trans bl.size q7, fun j j1 j2 j3 => (q8 j (Nat.lt_of_lt_of_le j1 bl.size) j2 j3).trans (bl.block j j1)⟩, q9⟩
  · rintro e w' ⟨c, rfl, rfl, q2, ⟨st', q3, q4, q5⟩, q6, q7, q8, q9, q10⟩
    have z0 := q2.cell 0
    have f0 := q2.frozen 0
    simp only [List.getElem?_cons_zero] at z0
    have hset := q3.set_far q2 (by decide) (fun e => hO1 (q5 _ e)) (by omega) 0 p.val
    have hz2 := (q2.set 0 p.val).cell 0
    simp only [List.set_cons_zero, List.getElem?_cons_zero] at hz2
    have hfar : ∀ j, j < w.heap.size → (w'.setCell ⟨w.heap.size + 1 + 1, 0, none⟩ p.val).heap[j]? = w'.heap[j]? := fun j e => Below.heap_setCell w' _ _ j (by show j ≠ w.heap.size + 1 + 1; omega)
    have hbs := (Below.refl 0 w').setCell (p := ⟨w.heap.size + 1 + 1, 0, none⟩) (Nat.zero_le _) p.val
    have hfin : Nw st w (w'.setCell ⟨w.heap.size + 1 + 1, 0, none⟩ p.val) := ⟨hbs.os.trans (q6.trans bel.os), hbs.tape.trans (q7.trans bel.tape), hbs.output.trans (q8.trans bel.output), Nat.le_trans bel.size (Nat.le_trans q9 hbs.size), fun j j1 j2 => (hfar j j1).trans ((q10 j (by omega) j2 (by omega)).trans (bel.block j j1))⟩
    have HF := Lib.hid (show ∃ st', NetAt (w'.setCell ⟨w.heap.size + 1 + 1, 0, none⟩ p.val) K_ N st' ∧ (∀ x y, sig st' x y = if a = x ∧ b = y then (sig st a b).eraseIdx k else sig st x y) ∧ (∀ j, NOwn st' j → NOwn st j) ∧ Nw st w (w'.setCell ⟨w.heap.size + 1 + 1, 0, none⟩ p.val) from ⟨st', hset, q4, q5, hfin⟩)
    clear hset hfar hbs hfin q4 q10
    unfold PV.val at z0 hz2 HF
    go_wp2_with fail
    exact bodyPost_ret (v := .tuple #[.slice p.A p.l.length p.c, .int .i64 0]) (by simp [results, Tryz.results17, go_sem, hz2]) rfl ⟨rfl, HF.out⟩
/-- Take, where there is none. -/
theorem Take_out {K_ : Nat → Prop} {N : Nat} {st : NSt} (a b : Int) (ha : I64 a) (hb : I64 b) (k : Int) (hk : ¬ (0 ≤ k ∧ k < (sig st a b).length)) (w : World) (h : NetAt w K_ N st) :
    Calls Tryz.prog 17 #[.pointer (some ⟨N, 0, none⟩), .int .i64 a, .int .i64 b, .int .i64 k] w fun e w' => e = .returned (.tuple #[.slice none 0 0, .int .i64 6]) ∧ Below w.heap.size w w' := by
  have HK := Lib.hid hk
  clear hk
  go_enter Tryz.func17, Tryz.ntmps17
  go_wp2_with fail
  obtain ⟨W, hW, b1, b2, b3, b4, bel, hsz⟩ := new4 w [.pointer (some ⟨N, 0, none⟩)] [.int .i64 k] [.slice none 0 0] [.int .i64 a, .int .i64 b] 23 3 28 58
  rw [← hW]
  clear hW
  refine (with_out a b ha hb k _ W (h.below bel) HK.out).mono ?_
  rintro e w' ⟨rfl, bl⟩
  have q2 := b3.below bl b3.lt
  have z0 := q2.cell 0
  have f0 := q2.frozen 0
  have hz2 := (q2.set 0 (.slice none 0 0)).cell 0
  simp only [List.set_cons_zero, List.getElem?_cons_zero] at z0 hz2
  have HF := Lib.hid (show Below w.heap.size w (w'.setCell ⟨w.heap.size + 1 + 1, 0, none⟩ (.slice none 0 0)) from (bel.trans (bl.mono bel.size)).setCell (by show w.heap.size ≤ w.heap.size + 1 + 1; omega) _)
  go_wp2_with fail
  exact bodyPost_ret (v := .tuple #[.slice none 0 0, .int .i64 6]) (by simp [results, Tryz.results17, go_sem, hz2]) rfl ⟨rfl, HF.out⟩
/-- Drop. -/
theorem Drop_in {K_ : Nat → Prop} {N : Nat} {st : NSt} (a b : Int) (ha : I64 a) (hb : I64 b) (k : Nat) (p : PV) (hp : (sig st a b)[k]? = some p) (w : World) (h : NetAt w K_ N st) :
    Calls Tryz.prog 18 #[.pointer (some ⟨N, 0, none⟩), .int .i64 a, .int .i64 b, .int .i64 k] w fun e w' => e = .returned (.int .i64 0) ∧ ∃ st', NetAt w' K_ N st' ∧ (∀ x y, sig st' x y = if a = x ∧ b = y then (sig st a b).eraseIdx k else sig st x y) ∧ (∀ j, NOwn st' j → NOwn st j) ∧ Nw st w w' := by
  have ht := Take_in a b ha hb k p hp w h
  clear hp
  go_enter Tryz.func18, Tryz.ntmps18
  go_wp2_with ((with_reducible refine ht.mono ?_); rintro _ w5 ⟨rfl, hs⟩; have HS := Lib.hid hs; clear hs)
  go_ret
  exact ⟨rfl, HS.out⟩
theorem Drop_out {K_ : Nat → Prop} {N : Nat} {st : NSt} (a b : Int) (ha : I64 a) (hb : I64 b) (k : Int) (hk : ¬ (0 ≤ k ∧ k < (sig st a b).length)) (w : World) (h : NetAt w K_ N st) :
    Calls Tryz.prog 18 #[.pointer (some ⟨N, 0, none⟩), .int .i64 a, .int .i64 b, .int .i64 k] w fun e w' => e = .returned (.int .i64 6) ∧ Below w.heap.size w w' := by
  have ht := Take_out a b ha hb k hk w h
  clear hk
  go_enter Tryz.func18, Tryz.ntmps18
  go_wp2_with ((with_reducible refine ht.mono ?_); rintro _ w5 ⟨rfl, hs⟩)
  go_ret
  exact ⟨rfl, hs⟩
/-- Double. -/
theorem Double_in {K_ : Nat → Prop} {N : Nat} {st : NSt} (a b : Int) (ha : I64 a) (hb : I64 b) (k : Nat) (p : PV) (hp : (sig st a b)[k]? = some p) (w : World) (h : NetAt w K_ N st) :
    Calls Tryz.prog 16 #[.pointer (some ⟨N, 0, none⟩), .int .i64 a, .int .i64 b, .int .i64 k] w fun e w' => e = .returned (.int .i64 (dblE (sig st a b).length)) ∧ ∃ st', NetAt w' (fun j => K_ j ∨ w.heap.size ≤ j) N st' ∧
      (∃ p' : PV, p'.l = p.l ∧ ∀ x y, sig st' x y = if a = x ∧ b = y ∧ dblE (sig st a b).length = 0 then sig st a b ++ [p'] else sig st x y) ∧ (∀ j, NOwn st' j → NOwn st j ∨ w.heap.size ≤ j) ∧ Nw st w w' := by
  have HP := Lib.hid hp
  clear hp
  go_enter Tryz.func16, Tryz.ntmps16
  go_wp2_with fail
  obtain ⟨W, hW, b1, b2, bel, hsz⟩ := new2 w [.pointer (some ⟨N, 0, none⟩)] [.int .i64 a, .int .i64 b] 23 58
  rw [← hW]
  clear hW
  have hn := h.below bel
  have hNl := h.net.lt
  refine (with_double a b ha hb k p HP.out _ _ w.heap.size (fun c w' => c = dblE (sig st a b).length ∧ ∃ st', NetAt w' (fun j => K_ j ∨ w.heap.size ≤ j) N st' ∧
      (∃ p' : PV, p'.l = p.l ∧ ∀ x y, sig st' x y = if a = x ∧ b = y ∧ dblE (sig st a b).length = 0 then sig st a b ++ [p'] else sig st x y) ∧ (∀ j, NOwn st' j → NOwn st j ∨ w.heap.size ≤ j) ∧ Nw st w w') W hn (by omega) (by omega) (fun W' bl => ?_)).mono ?_
  · refine (double1_any a b ha hb k p HP.out w.heap.size (w.heap.size + 1) W' (hn.below bl) (b1.below bl b1.lt) (b2.below bl b2.lt)).mono ?_
    rintro e w' ⟨c, rfl, q1, st', q2, q3, q4, q5⟩
    have hle : w.heap.size ≤ W'.heap.size := Nat.le_trans bel.size bl.size
    exact ⟨c, rfl, ⟨q1, st', q2.mono (fun j q _ => q.imp id (fun q => Nat.le_trans hle q)), q3, fun j q => (q4 j q).imp id (fun q => Nat.le_trans hle q), Nw.after (bel.trans (bl.mono bel.size)) q5⟩, fun j j1 j2 _ => q5.block j j1 j2⟩
  · rintro e w' ⟨c, rfl, hc, q⟩
    have HF := Lib.hid q
    have HC := Lib.hid hc
    clear q hc
    go_wp2_with fail
    go_ret
    exact ⟨by rw [← HC.out]; rfl, HF.out⟩
theorem Double_out {K_ : Nat → Prop} {N : Nat} {st : NSt} (a b : Int) (ha : I64 a) (hb : I64 b) (k : Int) (hk : ¬ (0 ≤ k ∧ k < (sig st a b).length)) (w : World) (h : NetAt w K_ N st) :
    Calls Tryz.prog 16 #[.pointer (some ⟨N, 0, none⟩), .int .i64 a, .int .i64 b, .int .i64 k] w fun e w' => e = .returned (.int .i64 6) ∧ Below w.heap.size w w' := by
  have HK := Lib.hid hk
  clear hk
  go_enter Tryz.func16, Tryz.ntmps16
  go_wp2_with fail
  obtain ⟨W, hW, b1, b2, bel, hsz⟩ := new2 w [.pointer (some ⟨N, 0, none⟩)] [.int .i64 a, .int .i64 b] 23 58
  rw [← hW]
  clear hW
  refine (with_out a b ha hb k _ W (h.below bel) HK.out).mono ?_
  rintro e w' ⟨rfl, bl⟩
  have HF := Lib.hid (bel.trans (bl.mono bel.size))
  go_wp2_with fail
  go_ret
  exact ⟨rfl, HF.out⟩
end Go.Proofs.YtenkhbiikecegaaGreat
