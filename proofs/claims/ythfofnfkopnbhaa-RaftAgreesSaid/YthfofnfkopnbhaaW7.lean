/- raft, the walk: settle. -/
import Derived.Test.YthfofnfkopnbhaaWShelf
import Derived.Deep.LoopGhost
import Derived.WalkSpells
import Derived.Test.YthfofnfkopnbhaaZ8
namespace Go.Proofs.Ythfofnfkopnbhaa
open Go.RowKit Go.Maps Go.ChangeMaps Go.Shelf Go.Sort
set_option linter.unusedVariables false
set_option linter.unusedSimpArgs false
set_option linter.unusedSectionVars false
set_option maxRecDepth 100000

def i64s (l : List Int) : List Value := l.map (Value.int .i64)
theorem i64s_len (l : List Int) : (i64s l).length = l.length := by simp [i64s]
theorem owns_ints {w : World} {base blk cap n : Nat} {l : List Int} (h : w.ownsRow base 3 1 (.slice (some ⟨blk, 0, none⟩) n cap) n (i64s l)) (hn : n = l.length) : Holds (Value.int .i64) w blk 0 l.toArray ∧ base ≤ blk ∧ blk < w.heap.size := by
  rcases h.2 with ⟨q, _⟩ | ⟨g, cap', cur, e, hb, hg, h1, h2, h3, h4⟩
  · cases q
  · injection e with e1 e2 e3
    injection e1 with e1
    injection e1 with e1
    subst e1 e3
    refine ⟨fun j hj => ⟨?_, frozen_blk hg _⟩, hb, (Array.getElem?_eq_some_iff.1 hg).1⟩
    have hj' : j < l.length := by simpa using hj
    have h5 : (i64s l)[j]? = some (.int .i64 l[j]) := by simp [i64s, hj']
    rw [← h4, List.getElem?_take, if_pos (by omega)] at h5
    rw [Nat.zero_add, cell_of_row w blk j cur _ (0, 0) hg, ← Array.getElem?_toList, h5]
    simp [hj']
theorem sortI_any (blk cap : Nat) (l : List Int) (w : World) (hH : Holds (Value.int .i64) w blk 0 l.toArray) (hblk : blk < w.heap.size) (hl : l.length ≤ 1000) :
    Calls Try.prog 47 #[.slice (some ⟨blk, 0, none⟩) l.length cap] w fun e w' => e = .returned (.tuple #[]) ∧ (∀ (j : Nat) x, (l.mergeSort fun x y => decide (x ≤ y))[j]? = some x → w'.cell? ⟨blk, j, none⟩ = some (.int .i64 x)) ∧ Ag (fun b => b ≠ blk) w w' := by
  refine (Try.slices_Sort_int blk 0 cap l w hH hblk (by omega)).mono ?_
  rintro e w' ⟨rfl, k, os, rfl⟩
  have hp := List.mergeSort_perm l (fun x y => decide (x ≤ y))
  generalize (l.mergeSort fun x y => decide (x ≤ y)) = l' at *
  have hlen := hp.length_eq
  have hH' : Holds (Value.int .i64) (Go.Sort.ahead w k) blk 0 l.toArray := hH
  have hz : (putRow (Value.int .i64) (Go.Sort.ahead w k) blk 0 l'.toArray).heap.size = w.heap.size := by rw [size_putRow]; rfl
  refine ⟨rfl, fun j x hx => ?_, ⟨rfl, rfl, rfl, ?_, fun i hi hne => ?_⟩⟩
  · have hj := (List.getElem?_eq_some_iff.1 hx).1
    have h1 := (holds_putRow _ _ _ _ _ l'.toArray hH' (by simp [hlen]) j (by simpa using hj)).1
    rw [cell?_grow _ _ _ (by show blk < _; rw [hz]; exact hblk)]
    rw [Nat.zero_add] at h1
    rw [h1]
    obtain ⟨_, h2⟩ := List.getElem?_eq_some_iff.1 hx
    simp [hj, h2]
  · rw [size_grow, hz]; omega
  · rw [heap_grow_old _ _ (by rw [hz]; exact hi)]
    unfold putRow mapBlock
    show (w.heap.modify blk _)[i]? = _
    rw [Array.getElem?_modify, if_neg (fun e => hne (by rw [e]))]
theorem med_perm {l l' : List Int} (h : l.Perm l') : (l.mergeSort fun x y => decide (x ≤ y)) = l'.mergeSort fun x y => decide (x ≤ y) := by
  have s1 : (l.mergeSort fun x y => decide (x ≤ y)).Pairwise (fun x y => decide (x ≤ y) = true) := List.pairwise_mergeSort (fun a b c h1 h2 => by simp at *; omega) (fun a b => by simp; omega) l
  have s2 : (l'.mergeSort fun x y => decide (x ≤ y)).Pairwise (fun x y => decide (x ≤ y) = true) := List.pairwise_mergeSort (fun a b c h1 h2 => by simp at *; omega) (fun a b => by simp; omega) l'
  have hp : (l.mergeSort fun x y => decide (x ≤ y)).Perm (l'.mergeSort fun x y => decide (x ≤ y)) := (List.mergeSort_perm _ _).trans (h.trans (List.mergeSort_perm _ _).symm)
  exact hp.eq_of_pairwise (fun a b _ _ h1 h2 => by simp at h1 h2; omega) s1 s2
section
variable {w w' : World} {P : Nat} {n id : Int} {m : Pm} {R : Nat → Prop} {c c' : Cs En}
/-- The servers of the entries that have come. -/
structure Cm (M : List (Int × Nat)) (ss : List MapEntry) (fl : List (Int × Nat)) : Prop where
  eq : ss.map (fun e => (e.key, e.val)) = fl.map fun p => (Value.int .i64 p.1, Value.pointer (some ⟨p.2, 0, none⟩))
  sub : ∀ f ∈ fl, f ∈ M
theorem Cm.nil (M : List (Int × Nat)) : Cm M [] [] := ⟨rfl, fun _ h => (by cases h)⟩
theorem pair_inj {a b : Int × Nat} (h : (Value.int .i64 a.1, Value.pointer (some ⟨a.2, 0, none⟩)) = (Value.int .i64 b.1, Value.pointer (some ⟨b.2, 0, none⟩))) : a = b := by
  injection h with h1 h2
  injection h1 with _ h1
  injection h2 with h2
  injection h2 with h2
  injection h2 with h2
  exact Prod.ext h1 h2
theorem Cm.more {M : List (Int × Nat)} {es ss : List MapEntry} {fl : List (Int × Nat)} (h : Cm M ss fl) (hes : es.map (fun e => (e.key, e.val)) = M.map fun p => (Value.int .i64 p.1, Value.pointer (some ⟨p.2, 0, none⟩))) {e : MapEntry} (he : e ∈ es) : ∃ f, f ∈ M ∧ e.key = .int .i64 f.1 ∧ e.val = .pointer (some ⟨f.2, 0, none⟩) ∧ Cm M (ss ++ [e]) (fl ++ [f]) := by
  have h1 : (e.key, e.val) ∈ M.map fun p => (Value.int .i64 p.1, Value.pointer (some ⟨p.2, 0, none⟩)) := by rw [← hes]; exact List.mem_map.2 ⟨e, he, rfl⟩
  obtain ⟨f, hf, q⟩ := List.mem_map.1 h1
  injection q with q1 q2
  refine ⟨f, hf, q1.symm, q2.symm, by rw [List.map_append, List.map_append, h.eq]; simp [q1, q2], fun x hx => ?_⟩
  rcases List.mem_append.1 hx with hx | hx
  · exact h.sub x hx
  · simp at hx; rw [hx]; exact hf
theorem Cm.all {M : List (Int × Nat)} {es ss : List MapEntry} {fl : List (Int × Nat)} (h : Cm M ss fl) (hM : (M.map Prod.fst).Nodup) (hes : es.map (fun e => (e.key, e.val)) = M.map fun p => (Value.int .i64 p.1, Value.pointer (some ⟨p.2, 0, none⟩))) (hp : ss.Perm es) : fl.Perm M := by
  have hp2 : (fl.map fun p => (Value.int .i64 p.1, Value.pointer (some ⟨p.2, 0, none⟩))).Perm (M.map fun p => (Value.int .i64 p.1, Value.pointer (some ⟨p.2, 0, none⟩))) := by
    rw [← h.eq, ← hes]; exact hp.map _
  have nd2 : (M.map fun p => (Value.int .i64 p.1, Value.pointer (some ⟨p.2, 0, none⟩))).Nodup := by
    rw [List.Nodup, List.pairwise_map]
    exact (nodup_of_map _ hM).imp fun hn e => hn (pair_inj e)
  have nd1 := hp2.nodup_iff.2 nd2
  refine (List.perm_ext_iff_of_nodup (nodup_of_map _ nd1) (nodup_of_map _ nd2)).2 fun f => ⟨h.sub f, fun hf => ?_⟩
  have : (Value.int .i64 f.1, Value.pointer (some ⟨f.2, 0, none⟩)) ∈ fl.map fun p => (Value.int .i64 p.1, Value.pointer (some ⟨p.2, 0, none⟩)) := hp2.mem_iff.2 (List.mem_map.2 ⟨f, hf, rfl⟩)
  obtain ⟨f', hf', e⟩ := List.mem_map.1 this
  rw [← pair_inj e]
  exact hf'
theorem owns_keep {w w' : World} {base e size n : Nat} {v : Value} {xs : List Value} (h : w.ownsRow base e size v n xs) (hk : ∀ g, v.ownBlock = some g → w'.heap[g]? = w.heap[g]?) : w'.ownsRow base e size v n xs := by
  refine ⟨h.1, ?_⟩
  rcases h.2 with h' | ⟨g, cap, cur, rfl, hb, hg, h1, h2, h3, h4⟩
  · exact .inl h'
  · exact .inr ⟨g, cap, cur, rfl, hb, (hk g rfl).trans hg, h1, h2, h3, h4⟩
theorem owns_lt {w : World} {base e size n : Nat} {v : Value} {xs : List Value} (h : w.ownsRow base e size v n xs) : ∀ g, v.ownBlock = some g → g < w.heap.size := by
  intro g hg
  rcases h.2 with ⟨h', _⟩ | ⟨g', cap, cur, rfl, hb, hg', _⟩
  · rw [h'] at hg; cases hg
  · injection hg with hg
    subst hg
    exact (Array.getElem?_eq_some_iff.1 hg').1
theorem owns_cells {w : World} {base e size n : Nat} {v : Value} {xs : List Value} (h : w.ownsRow base e size v n xs) {g : Nat} (hg : v.ownBlock = some g) : ∃ cur, w.heap[g]? = some (.cells cur e (0, 0)) := by
  rcases h.2 with ⟨h', _⟩ | ⟨g', cap, cur, rfl, hb, hg', _⟩
  · rw [h'] at hg; cases hg
  · injection hg with hg
    subst hg
    exact ⟨cur, hg'⟩
theorem infoInt : (Try.prog.info? 3).map (fun i => (i.zero, i.size, i.bytes)) = some (some (.int .i64 0), 1, 8) := by kernel_rfl
set_option maxHeartbeats 1000000 in
theorem settle_any (h : PeA w P n id m R c) (hl : Lm c) (hr3 : c.p.role = 3) (hi1 : 1 ≤ id) (hi2 : id ≤ n) (hn7 : n ≤ 7) :
    Calls Try.prog 29 #[.pointer (some ⟨P, 0, none⟩)] w fun e w' => e = .returned (.tuple #[]) ∧ PeA w' P n id m R (settleP En.term n id c) ∧ Ag (fun b => b ≠ P) w w' := by
  obtain ⟨c0, c1, c2, c3, c4, c5, c6, c7, c8, c9, c10, c11, c12, c13⟩ := h.cells
  obtain ⟨hov, hkeys⟩ := h.r.keys hr3
  obtain ⟨mb, es, ck, hmv, hmb, hes, hent⟩ : ∃ (b : Nat) (es : List MapEntry) (ck : Nat), m.ov = .map (some b) ∧ w.heap[b]? = some (.map es.toArray ck) ∧ EsOk Try.prog 3 es ck ∧ es.map (fun e => (e.key, e.val)) = m.M.map fun p => (Value.int .i64 p.1, Value.pointer (some ⟨p.2, 0, none⟩)) := by
    rcases h.r.of with ⟨h1, _⟩ | h1
    · exact absurd h1 hov
    · exact h1
  have hlen := hl.len
  rw [hmv] at c13
  have H := Lib.hid h
  have HENT := Lib.hid hent
  have HKEYS := Lib.hid hkeys
  have HMV := Lib.hid hmv
  clear h hent hkeys hov hmv
  go_enter Try.func29, Try.ntmps29
  have mapTy : Try.prog.underlying 52 = some (.map 3 91) := Try.underlying52
  go_wp2_with (first
    | (go_at_call 23; refine (Last_any 0 w m.lp c.p.log H.out.r.log.has).mono ?_; rintro _ w1 ⟨rfl, hb1⟩; have c13' : ∀ o, (w1.alloc o).cell? ⟨P, 13, none⟩ = some (.map (some mb)) := fun o => by { rw [((H.out.below hb1).obj.alloc o).cell 13]; show some m.ov = _; rw [HMV.out] })
    | (refine wpList_range_it (by rfl) (.tmp 23) 52 (by rfl) 3 91 mapTy mb es ck (by rfl) (((hb1.alloc hb1.size _).block mb (Array.getElem?_eq_some_iff.1 hmb).1).trans hmb) ?_; intro hI))
  have hb2 : Below w.heap.size w (w1.alloc (.cells #[.int .i64 c.p.log.length] 3)) := hb1.alloc hb1.size _
  have hown : (w1.alloc (.cells #[.int .i64 c.p.log.length] 3)).ownsRow w.heap.size 3 1 (.slice (some ⟨w1.heap.size, 0, none⟩) 1 1) 1 (i64s [(c.p.log.length : Int)]) :=
    ⟨rfl, .inr ⟨w1.heap.size, 1, _, rfl, hb1.size, heap_alloc_new w1 _, Nat.le_refl _, by decide, rfl, rfl⟩⟩
  have hgb : w1.heap.size < (w1.alloc (.cells #[.int .i64 c.p.log.length] 3)).heap.size := by simp
  have hwb := hb1.size
  obtain ⟨g0, hg0⟩ : ∃ g0, g0 = w1.heap.size := ⟨_, rfl⟩
  rw [← hg0] at hown hgb hwb ⊢
  generalize (w1.alloc (.cells #[.int .i64 c.p.log.length] 3)) = w2 at *
  clear c13' hb1 hg0
  have hb3 : Below w.heap.size w (w2.alloc (.mapIter (some mb) ck #[] ck)) := hb2.alloc hb2.size _
  have hown3 : (w2.alloc (.mapIter (some mb) ck #[] ck)).ownsRow w.heap.size 3 1 (.slice (some ⟨g0, 0, none⟩) 1 1) 1 (i64s [(c.p.log.length : Int)]) := ⟨hown.1, hown.2.imp (fun h => h) (fun ⟨g, cap, cur, e, h1, h2, h3⟩ => ⟨g, cap, cur, e, h1, (heap_alloc_old w2 _ (Array.getElem?_eq_some_iff.1 h2).1).trans h2, h3⟩)⟩
  obtain ⟨r, hr⟩ : ∃ r, r = w2.heap.size := ⟨_, rfl⟩
  have hrw : w.heap.size ≤ r := by rw [hr]; exact hb2.size
  rw [← hr] at hI ⊢
  generalize (w2.alloc (.mapIter (some mb) ck #[] ck)) = w3 at *
  clear hown hgb hr hb2
  go_frame
  go_loopg [4] es.length (fun g v wr => ∃ (ss : List MapEntry) (fl : List (Int × Nat)), (∃ k cap, v = .slice (some ⟨k, 0, none⟩) (1 + fl.length) cap) ∧ wr.ownsRow w.heap.size 3 1 v (1 + fl.length) (i64s ((c.p.log.length : Int) :: fl.map fun p => c.p.mat p.1)) ∧ It wr mb r es ck ss ∧ Cm m.M ss fl ∧ es.length ≤ fl.length + g ∧ Below w.heap.size w wr)
  case atStart => exact ⟨[], [], ⟨_, _, rfl⟩, hown3, hI, Cm.nil _, by simp, hb3⟩
  case round =>
    clear hI hb3 hown3
    obtain ⟨ss, fl, ⟨k0, cap0, rfl⟩, hown, hI, hC, hg, hb⟩ := hrel
    go_wp2_with (refine wpList_next_it (by rfl) (.tmp 24) (by rfl) hes hI (by rfl) ?done ?more)
    case done =>
      intro hp
      have hpf := hC.all H.out.r.of.nodup HENT.out hp
      obtain ⟨hH, hk0, hk1⟩ := owns_ints hown (by simp; omega)
      have hnl : (fl.length : Int) = n - 1 := by
        have h1 := hpf.length_eq
        have h2 := congrArg List.length HKEYS.out
        have h3 := others_len (n := n) (q := id) ⟨hi1, hi2⟩
        simp at h2
        omega
      have hn1 : (fl.length : Int) ≤ n - 1 := by omega
      have hn2 : n - 1 ≤ (fl.length : Int) := by omega
      have hS := sortI_any k0 cap0 _ wr hH hk1 (by simp; omega)
      rw [show ((c.p.log.length : Int) :: fl.map fun p => c.p.mat p.1).length = 1 + fl.length by simp; omega] at hS
      have hperm : (((c.p.log.length : Int) :: fl.map fun p => c.p.mat p.1)).Perm ((c.p.log.length : Int) :: (others n id).map c.p.mat) := by
        refine List.Perm.cons _ ?_
        rw [← HKEYS.out, List.map_map]
        exact hpf.map _
      have hmed : (((c.p.log.length : Int) :: fl.map fun p => c.p.mat p.1).mergeSort fun x y => decide (x ≤ y))[((n - 1) / 2).toNat]? = some (medP n ((c.p.log.length : Int) :: (others n id).map c.p.mat)) := by
        unfold medP
        rw [← med_perm hperm]
        have hlt : ((n - 1) / 2).toNat < (((c.p.log.length : Int) :: fl.map fun p => c.p.mat p.1).mergeSort fun x y => decide (x ≤ y)).length := by
          rw [List.length_mergeSort]; simp; omega
        rw [List.getElem?_eq_getElem hlt, List.getD_eq_getElem?_getD, List.getElem?_eq_getElem hlt]
        rfl
      generalize hat : medP n ((c.p.log.length : Int) :: (others n id).map c.p.mat) = at_ at hmed
      have HAT := Lib.hid hat
      have HMED := Lib.hid hmed
      clear hnl hat hmed hperm hH hown hI hpf hp hC hg
      have hq0 : n.toNat ≤ 7 := by omega
      have hset : settleP En.term n id c = if c.p.C < at_ ∧ termAt c.p.log at_ = c.p.T then { c with p := { c.p with C := at_ } } else c := by
        rw [term_is]
        unfold settleP
        rw [HAT.out]
      have HSET := Lib.hid hset
      clear hset
      by_cases h1 : c.p.C < at_
      · have d1 : decide (c.p.C < at_) = true := decide_eq_true h1
        by_cases h2 : termAt c.p.log at_ = c.p.T
        · have d2 : (termAt c.p.log at_ == c.p.T) = true := by simp [h2]
          have H2 := Lib.hid h2
          clear h2
          go_wp2_with (first
            | (go_at_call 47; refine hS.mono ?_; rintro _ w5 ⟨rfl, hc5, hA5⟩; have hB5 : Below w.heap.size w w5 := hb.trans (hA5.below hb.size (fun k hk => by omega)); have HA5 := Lib.hid (H.out.below hB5); obtain ⟨d0, d1, d2, d3, d4, d5, d6, d7, d8, d9, d10, d11, d12, d13⟩ := HA5.out.cells; have g5 := hc5 _ _ HMED.out)
            | (go_at_call 48; refine (Term_any 0 w5 m.lp c.p.log _ HA5.out.r.log.has).mono ?_; rintro _ w7 ⟨rfl, hb7⟩; have HA7 := Lib.hid (HA5.out.below hb7); obtain ⟨k0', k1', k2', k3', k4', k5', k6', k7', k8', k9', k10', k11', k12', k13'⟩ := HA7.out.cells; have f3 := HA7.out.frozen 3))
          go_end0
          refine ⟨rfl, ?_, ?_⟩
          · rw [HSET.out, if_pos ⟨h1, H2.out⟩]
            exact HA7.out.set 3 _ rfl (HA7.out.r.re rfl rfl rfl rfl rfl HA7.out.r.vn HA7.out.r.keys)
          · exact (Ag.of_below _ (hB5.trans (hb7.mono hB5.size))).setCell (fun _ hK => hK rfl) _
        · have d2 : (termAt c.p.log at_ == c.p.T) = false := by simp [h2]
          go_wp2_with (first
            | (go_at_call 47; refine hS.mono ?_; rintro _ w5 ⟨rfl, hc5, hA5⟩; have hB5 : Below w.heap.size w w5 := hb.trans (hA5.below hb.size (fun k hk => by omega)); have HA5 := Lib.hid (H.out.below hB5); obtain ⟨d0, d1, d2, d3, d4, d5, d6, d7, d8, d9, d10, d11, d12, d13⟩ := HA5.out.cells; have g5 := hc5 _ _ HMED.out)
            | (go_at_call 48; refine (Term_any 0 w5 m.lp c.p.log _ HA5.out.r.log.has).mono ?_; rintro _ w7 ⟨rfl, hb7⟩; have HA7 := Lib.hid (HA5.out.below hb7); obtain ⟨k0', k1', k2', k3', k4', k5', k6', k7', k8', k9', k10', k11', k12', k13'⟩ := HA7.out.cells; have f3 := HA7.out.frozen 3))
          go_end0
          refine ⟨rfl, ?_, Ag.of_below _ (hB5.trans (hb7.mono hB5.size))⟩
          rw [HSET.out, if_neg (fun h => h2 h.2)]
          exact HA7.out
      · have d1 : decide (c.p.C < at_) = false := decide_eq_false h1
        go_wp2_with (first
          | (go_at_call 47; refine hS.mono ?_; rintro _ w5 ⟨rfl, hc5, hA5⟩; have hB5 : Below w.heap.size w w5 := hb.trans (hA5.below hb.size (fun k hk => by omega)); have HA5 := Lib.hid (H.out.below hB5); obtain ⟨d0, d1, d2, d3, d4, d5, d6, d7, d8, d9, d10, d11, d12, d13⟩ := HA5.out.cells; have g5 := hc5 _ _ HMED.out)
          | (go_at_call 48; refine (Term_any 0 w5 m.lp c.p.log _ HA5.out.r.log.has).mono ?_; rintro _ w7 ⟨rfl, hb7⟩; have HA7 := Lib.hid (HA5.out.below hb7); obtain ⟨k0', k1', k2', k3', k4', k5', k6', k7', k8', k9', k10', k11', k12', k13'⟩ := HA7.out.cells; have f3 := HA7.out.frozen 3))
        go_end0
        refine ⟨rfl, ?_, Ag.of_below _ (hB5.trans (hb7.mono hB5.size))⟩
        rw [HSET.out, if_neg (fun h => by have := h.1; omega)]
        exact HA7.out
    case more =>
      intro e w4 he hI2 ha hre
      obtain ⟨f, hf, e1, e2, hC2⟩ := hC.more HENT.out he
      have hr1 : r < wr.heap.size := hI.lt.2
      have hb4 : Below w.heap.size w w4 := hb.trans ⟨ha.os, ha.tape, ha.output, ha.size, fun j hj => ha.block j (Nat.lt_of_lt_of_le hj hb.size) (by omega)⟩
      have hown4 : w4.ownsRow w.heap.size 3 1 (.slice (some ⟨k0, 0, none⟩) (1 + fl.length) cap0) (1 + fl.length) (i64s ((c.p.log.length : Int) :: fl.map fun p => c.p.mat p.1)) := owns_keep hown (fun g hg' => ha.block g (owns_lt hown g hg') (fun e => by
        obtain ⟨_, _, q, _⟩ := hI.it
        obtain ⟨cur, hq⟩ := owns_cells hown hg'
        rw [e, q] at hq
        cases hq))
      rw [e1, e2] at hre ⊢
      have q1 : w4.cell? ⟨f.2, 1, none⟩ = some (.int .i64 (c.p.mat f.1)) := ((H.out.r.srv f.1 f.2 hf).below hb4 (H.out.r.own f.2 (.inr (.inr (.inr (.inr (.inr ⟨f.1, hf⟩))))))).cell 1
      have hlen2 := hI2.len
      have hll : fl.length = ss.length := by have := congrArg List.length hC.eq; simpa using this.symm
      have hle : fl.length + 1 ≤ es.length := by simp at hlen2; omega
      have hlm : es.length ≤ 7 := by
        have h1 := congrArg List.length HENT.out
        have h2 := congrArg List.length HKEYS.out
        have h3 := others_len (n := n) (q := id) ⟨hi1, hi2⟩
        simp at h1 h2
        omega
      clear hll hlen2
      obtain ⟨i0, hi, hz, hz1, hz2⟩ := info_parts infoInt
      go_wp2_with (at_builtin; refine wpList_append_own _ rfl (.tmp 29) (.tmp 34) 31 rfl w.heap.size 3 i0 (.int .i64 0) 1 8 Try.underlying31 hi hz hz1 hz2 rfl (by decide) _ _ _ rfl (owns_keep hown4 (fun g hg' => heap_alloc_old w4 _ (owns_lt hown4 g hg'))) ⟨w4.heap.size, 0, none⟩ 1 1 [.int .i64 (c.p.mat f.1)] (by rfl) (by rfl) (news_new w4 [.int .i64 (c.p.mat f.1)] 3) (fun u hu => by simp at hu; rw [hu]; rfl) (by unfold maxLen; omega) (by omega) (Nat.le_trans hb4.size (by simp)) ?_; intro v' w6 hown6 hgr hv')
      have hg1 : 1 ≤ gk := by omega
      have hk0 : w.heap.size ≤ k0 := by
        rcases hown.2 with ⟨h', _⟩ | ⟨g', cap, cur, h', q, _⟩
        · cases h'
        · injection h' with h'; injection h' with h'; injection h' with h'; rw [h']; exact q
      obtain ⟨cur0, hcur0⟩ := owns_cells hown4 (g := k0) rfl
      have hmbk : mb ≠ k0 := fun e => by have := hI2.map; rw [e, hcur0] at this; cases this
      have hrk : r ≠ k0 := fun e => by obtain ⟨_, _, q, _⟩ := hI2.it; rw [e, hcur0] at q; cases q
      have hI6 : It w6 mb r es ck (ss ++ [e]) := hI2.keep ((hgr.block mb (by have := hI2.lt.1; simp; omega) (fun e => hmbk (by injection e))).trans (heap_alloc_old w4 _ hI2.lt.1)) ((hgr.block r (by have := hI2.lt.2; simp; omega) (fun e => hrk (by injection e))).trans (heap_alloc_old w4 _ hI2.lt.2))
      have hb6 : Below w.heap.size w w6 := (hb4.alloc hb4.size _).grown hgr (by simp; have := hb4.size; omega) (fun k e => by injection e with e; rw [← e]; exact hk0)
      have hown7 : w6.ownsRow w.heap.size 3 1 v' (1 + (fl ++ [f]).length) (i64s ((c.p.log.length : Int) :: (fl ++ [f]).map fun p => c.p.mat p.1)) := by
        rw [show 1 + (fl ++ [f]).length = 1 + fl.length + 1 by simp; omega, show i64s ((c.p.log.length : Int) :: (fl ++ [f]).map fun p => c.p.mat p.1) = i64s ((c.p.log.length : Int) :: fl.map fun p => c.p.mat p.1) ++ [.int .i64 (c.p.mat f.1)] by simp [i64s]]
        exact hown6
      have hform : ∃ k cap, v' = .slice (some ⟨k, 0, none⟩) (1 + (fl ++ [f]).length) cap := by
        rcases hown7.2 with ⟨_, q⟩ | ⟨g', cap, cur, h', _⟩
        · simp at q
        · exact ⟨_, _, h'⟩
      clear hown hown4 hown6 hI hI2 hb hb4 hgr hv' hcur0
      go_roundg (gk - 1)
      case measure => omega
      case rel => exact ⟨_, _, hform, hown7, hI6, hC2, by simp; omega, hb6⟩
end
end Go.Proofs.Ythfofnfkopnbhaa

