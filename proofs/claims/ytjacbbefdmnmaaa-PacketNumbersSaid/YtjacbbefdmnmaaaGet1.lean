/- The program's Get (package packet), over this seat's program. -/
import Derived.Test.YtjacbbefdmnmaaaPlaces
import Derived.Test.YtjacbbefdmnmaaaRound
namespace Go.Proofs.Ytjacbbefdmnmaaa
open Go.RowKit Go.Shelf

attribute [local go_sem] Oper.semAt_some

theorem Bk.new (w : World) (t : TypeId) (cs : List Value) : Bk (w.alloc (.cells cs.toArray t)) w.heap.size t cs := heap_alloc_new w _
theorem Bk.lt {w : World} {g : Nat} {t : TypeId} {cs : List Value} (h : Bk w g t cs) : g < w.heap.size := (Array.getElem?_eq_some_iff.1 h).1
theorem Bk.below {w w' : World} {g B : Nat} {t : TypeId} {cs : List Value} (h : Bk w g t cs) (hb : Below B w w') (hg : g < B) : Bk w' g t cs := (hb.block g hg).trans h
theorem Bk.alloc {w : World} {g : Nat} {t : TypeId} {cs : List Value} (h : Bk w g t cs) (o : Obj) : Bk (w.alloc o) g t cs := (Below.heap_alloc w o g h.lt).trans h
theorem Bk.grown {w w' : World} {g : Nat} {t : TypeId} {cs : List Value} {row : Option Nat} (h : Bk w g t cs) (hb : w.grownBy w' row) (hg : some g ≠ row) : Bk w' g t cs := (hb.block g h.lt hg).trans h
theorem Bk.set {w : World} {g : Nat} {t : TypeId} {cs : List Value} (h : Bk w g t cs) (i : Nat) (u : Value) : Bk (w.setCell ⟨g, i, none⟩ u) g t (cs.set i u) := by
  have := heap_setCell_same w g i cs.toArray t u h
  unfold Bk
  rw [this]
  simp
theorem Bk.far {w : World} {g : Nat} {t : TypeId} {cs : List Value} (h : Bk w g t cs) {p : Addr} (hp : g ≠ p.block) (u : Value) : Bk (w.setCell p u) g t cs := (Below.heap_setCell w p u g hp).trans h

theorem gr_trans {a b c : World} {row : Option Nat} (h : a.grownBy b row) (k : b.grownBy c row) : a.grownBy c row :=
  ⟨k.os.trans h.os, k.tape.trans h.tape, k.output.trans h.output, Nat.le_trans h.size k.size, fun i hi hn => (k.block i (Nat.lt_of_lt_of_le hi h.size) hn).trans (h.block i hi hn)⟩
theorem gr_below {a b : World} (h : Below a.heap.size a b) (row : Option Nat) : a.grownBy b row := ⟨h.os, h.tape, h.output, h.size, fun i hi _ => h.block i hi⟩
theorem gr_far {a b c : World} {row : Option Nat} (h : a.grownBy b row) {r : Option Nat} (k : b.grownBy c r) (hr : ∀ j, r = some j → a.heap.size ≤ j) : a.grownBy c row :=
  ⟨k.os.trans h.os, k.tape.trans h.tape, k.output.trans h.output, Nat.le_trans h.size k.size, fun i hi hn => (k.block i (Nat.lt_of_lt_of_le hi h.size) (fun e => by have := hr i e.symm; omega)).trans (h.block i hi hn)⟩
theorem gr_set {a b : World} {g : Nat} (h : a.grownBy b (some g)) {p : Addr} (hp : p.block = g) (u : Value) : a.grownBy (b.setCell p u) (some g) :=
  ⟨h.os, h.tape, h.output, by simpa [World.setCell] using h.size, fun i hi hn => (Below.heap_setCell b p u i (fun e => hn (by rw [e, hp]))).trans (h.block i hi hn)⟩
theorem gr_drew {a b : World} {row : Option Nat} (h : a.grownBy b row) : a.grownBy b.drew row := ⟨h.os, h.tape, h.output, h.size, h.block⟩

theorem places_in (F : Fence) (n : Nat) (h23 : F.fn 23) (hro : F.round = none) (t s : Int) (w : World) :
    CallsIn F n Try.prog 23 #[.int .i64 t, .int .i64 s] w fun e w' => e = .returned (.func (.func 29) #[] #[.pointer (some ⟨w.heap.size + 1, 0, none⟩), .pointer (some ⟨w.heap.size, 0, none⟩)]) ∧ w' = (w.alloc (.cells #[.int .i64 t] 2)).alloc (.cells #[.int .i64 s] 3) := by
  refine callsIn_of_wp Try.func23 rfl h23 ?_ hro
  simp only [Try.ntmps23, List.size_toArray, List.length_cons, List.length_nil, Nat.reduceAdd, Nat.reduceSub, Array.replicate_succ, Array.replicate_zero, List.push_toArray, List.append_toArray, List.nil_append, List.cons_append]
  gi_wp2
  go_ret
  exact ⟨rfl, rfl⟩

theorem places_stops (F : Fence) (n : Nat) (h29 : F.fn 29) (hro : F.round = none) (hn : 1 ≤ n) (bs bt : Nat) (t : Int) (s : Nat) (hs : s ≤ 8) (ht0 : 0 ≤ t) (ht : t ≤ 1000000) (w : World) (hbs : Bk w bs 3 [.int .i64 s]) (hbt : Bk w bt 2 [.int .i64 t]) :
    SeqStopsK F n Try.prog 29 #[.pointer (some ⟨bs, 0, none⟩), .pointer (some ⟨bt, 0, none⟩)] (encP t s) (Kp2 bs bt) (fun ys => ys = List.finRange s) (fun pre => ∃ k, k ≤ s ∧ pre = upto s k) s w := fun l J Jx W hW _ _ hY h0 =>
  places1_in F n h29 hro hn l bs bt t s hs ht0 ht J Jx hY W (hbs.below hW hbs.lt) (hbt.below hW hbt.lt) h0

theorem kp2_t {a b : Nat} {A B C : World} (h : Kp2 a b A B) (k : Kp2 a b B C) : Kp2 a b A C := ⟨k.1.trans h.1, k.2.trans h.2⟩
theorem kp2_b {a b : Nat} {w : World} (ha : a < w.heap.size) (hb : b < w.heap.size) (W : World) (l : Nat) (o o' : Obj) (hl : w.heap.size ≤ l) (_ : W.heap[l]? = some o) (_ : o.isCells = false) (_ : o.isWalk = false) : Kp2 a b W (W.putObj l o') :=
  ⟨World.putObj_heap_other (by omega), World.putObj_heap_other (by omega)⟩

/-- The number as it stands behind the rounds of pre. -/
def orStep (acc y up : Int) : Int := bits BinOp.or .u64 acc (IntKind.u64.wrap (IntKind.u64.wrap y * 2 ^ up.toNat))
def orF (xs : List Int) (p s : Nat) (pre : List (Fin s)) : Int := pre.foldl (fun acc i => orStep acc (xs[p + i.1]?.getD 0) (8 * ((s : Int) - 1 - (i.1 : Int)))) 0
theorem orF_snoc (xs : List Int) (p s : Nat) (pre : List (Fin s)) (i : Fin s) {y : Int} (hy : xs[p + i.1]? = some y) : orF xs p s (pre ++ [i]) = orStep (orF xs p s pre) y (8 * ((s : Int) - 1 - (i.1 : Int))) := by simp [orF, hy]

set_option maxRecDepth 100000 in
set_option maxHeartbeats 2000000 in
theorem get1_0 (g0 g1 g2 g3 : Nat) (A : Option Addr) (c : Nat) (xs : List Int) (p s B : Nat) (w : World)
    (b0 : Bk w g0 22 [.slice A xs.length c]) (b1 : Bk w g1 2 [.int .i64 p]) (b2 : Bk w g2 3 [.int .i64 s]) (b3 : Bk w g3 27 [.int .u64 0])
    (ha : Rd w B A c (u8s xs)) (hB : B ≤ g3) (n1 : g0 ≠ g3) (hx : Bytes xs) (hn : xs.length ≤ 1000000) (hs : okSz s = true) (h1 : p + s ≤ xs.length) :
    Calls Try.prog 24 #[.pointer (some ⟨g0, 0, none⟩), .pointer (some ⟨g1, 0, none⟩), .pointer (some ⟨g2, 0, none⟩), .pointer (some ⟨g3, 0, none⟩)] w fun e w' =>
      e = .returned (.tuple #[]) ∧ Bk w' g3 27 [.int .u64 (orF xs p s (List.finRange s))] ∧ w.grownBy w' (some g3) := by
  have c0 : w.cell? ⟨g0, 0, none⟩ = some (.slice A xs.length c) := by rw [b0.cell]; rfl
  have c1 : w.cell? ⟨g1, 0, none⟩ = some (.int .i64 p) := by rw [b1.cell]; rfl
  have c2 : w.cell? ⟨g2, 0, none⟩ = some (.int .i64 s) := by rw [b2.cell]; rfl
  have hs8 : s ≤ 8 := by have := place_size s hs; omega
  refine (callsIn_wide (n := 3)).1 ?_
  refine callsIn_of_wp_marks Try.func24 rfl trivial ?_ rfl
  simp only [Try.ntmps24, List.size_toArray, List.length_cons, List.length_nil, Nat.reduceAdd, Nat.reduceSub, Array.replicate_succ, Array.replicate_zero, List.push_toArray, List.append_toArray, List.nil_append, List.cons_append]
  gi_wp2_with (first
    | (refine ⟨trivial, ?_⟩; gi_at_call 22; refine (callsIn_wide.2 (check_0 A xs.length c p s _ hn hs (by omega) (by omega))).mono ?_; rintro e w1 ⟨rfl, hb1⟩; have c1 : w1.cell? ⟨g1, 0, none⟩ = some (.int .i64 p) := by { rw [(b1.below hb1 b1.lt).cell]; rfl }; have c2 : w1.cell? ⟨g2, 0, none⟩ = some (.int .i64 s) := by { rw [(b2.below hb1 b2.lt).cell]; rfl })
    | (refine ⟨trivial, ?_⟩; gi_at_call 23; refine (places_in Fence.wide _ trivial rfl _ _ _).mono ?_; rintro e w2 ⟨rfl, rfl⟩))
  have hz := hb1.size
  have hg3 := b3.lt
  have nb1 := Bk.new w1 2 [.int .i64 p]
  have nb2 := Bk.new (w1.alloc (.cells #[.int .i64 p] 2)) 3 [.int .i64 s]
  rw [World.size_alloc] at nb2
  have hB2 : Below w.heap.size w ((w1.alloc (.cells #[.int .i64 p] 2)).alloc (.cells #[.int .i64 s] 3)) := (hb1.alloc (by omega) _).alloc (by simp; omega) _
  refine wpIn_rangeFunc_ownF rfl (by omega) (gf := 29) (lb := #[.pointer (some ⟨w1.heap.size + 1, 0, none⟩), .pointer (some ⟨w1.heap.size, 0, none⟩)]) rfl trivial (enters_of Try.func29 (by kernel_rfl) rfl)
    (places_stops Fence.wide (3 - 1) trivial rfl (by omega) (w1.heap.size + 1) w1.heap.size p s hs8 (by omega) (by omega) _ nb2 (nb1.alloc _)) kp2_t (kp2_b (by simp) (by simp; omega)) (Below.refl _ _) (fun _ => rfl)
    (fun pre W => Bk W g3 27 [.int .u64 (orF xs p s pre)] ∧ w.grownBy W (some g3))
    (fun _ _ _ => False)
    (fun s A B row hs hg hr => ⟨hs.1.grown hg (fun e => by have := (hr g3 e.symm).1; simp at this; omega), gr_far hs.2 hg (fun j e => by have := (hr j e).1; simp at this; omega)⟩)
    (fun _ _ _ _ _ hs _ _ => hs)
    ⟨b3.below hB2 b3.lt, gr_below hB2 _⟩
    (fun x => { tmps := #[.pointer (some ⟨g0, 0, none⟩), .pointer (some ⟨g1, 0, none⟩), .pointer (some ⟨g2, 0, none⟩), .pointer (some ⟨g3, 0, none⟩), .int .i64 (p + (x.1 : Int)), .int .i64 (8 * ((s : Int) - 1 - (x.1 : Int))), .slice A xs.length c, .int .i64 p, .int .i64 s, .tuple #[], .int .i64 p, .int .i64 s, .func (.func 29) #[] #[.pointer (some ⟨w1.heap.size + 1, 0, none⟩), .pointer (some ⟨w1.heap.size, 0, none⟩)], .int .i64 (p + (x.1 : Int)), .int .i64 (8 * ((s : Int) - 1 - (x.1 : Int))), undef, undef, undef, undef, undef, undef, undef, undef, undef], defers := [] }) ?assign ?body ?done ?stop
  case assign =>
    intro l x W K hK
    simp only [encP]
    gi_wp2
    exact hK
  case body =>
    rintro l pre ⟨x, hxs⟩ W ⟨hb3, hgr⟩ _
    have d0 : W.cell? ⟨g0, 0, none⟩ = some (.slice A xs.length c) := by rw [(b0.grown hgr (by simp [n1])).cell]; rfl
    have d3 : W.cell? ⟨g3, 0, none⟩ = some (.int .u64 (orF xs p s pre)) := by rw [hb3.cell]; rfl
    have f3 : W.frozen? ⟨g3, 0, none⟩ = false := hb3.frozen 0
    obtain ⟨a, y, rfl, hab, ca, hy⟩ := ha.at_ (k := p + x) (by omega)
    have da : W.cell? (a.add (p + x)) = some (.int .u8 y) := by
      rw [← ca]
      exact World.cell?_of_block (hgr.block _ (by rw [add_blk]; omega) (by rw [add_blk]; intro e; injection e with e; omega))
    have hyb := hx.at_ hy.out
    clear c0 ca b0 b1 b2 ha
    have HS := Lib.hid (orF_snoc xs p s pre ⟨x, hxs⟩ hy.out)
    have i1 : (0 : Int) ≤ (p : Int) + x := by omega
    have i2 : (p : Int) + x < xs.length := by omega
    have i3 : ((p : Int) + x).toNat = p + x := by omega
    have i4 : 0 ≤ 8 * ((s : Int) - 1 - (x : Int)) := by omega
    have i5 : ¬ 8 * ((s : Int) - 1 - (x : Int)) < 0 := by omega
    clear h1 hn hs hyb
    gi_wp2
    refine round_still_tail l _ 9 (by kernel_rfl) (by kernel_rfl) (by kernel_rfl) (by rintro ⟨_, _, h⟩; exact h) ?_
    simp only [List.take_succ_cons, List.take_zero, List.drop_succ_cons, List.drop_zero]
    repeat still_step
    refine wpStill_nil ?_
    go_wp2
    have hv : orStep (orF xs p s pre) y (8 * ((s : Int) - 1 - (x : Int))) = bits BinOp.or .u64 (orF xs p s pre) (IntKind.u64.wrap (IntKind.u64.wrap y * 2 ^ (8 * (s - 1 - x)))) := by
      unfold orStep; rw [show (8 * ((s : Int) - 1 - (x : Int))).toNat = 8 * (s - 1 - x) by omega]
    rw [← hv]
    exact ⟨(KeepsOthers.setCell _ _ _).trans (KeepsOthers.drew _), ⟨Below.heap_setCell _ _ _ _ (by simp; omega), Below.heap_setCell _ _ _ _ (by simp; omega)⟩, by rw [HS.out]; exact hb3.set 0 _, gr_drew (gr_set hgr rfl _)⟩
  case done =>
    rintro D ys W hD rfl ⟨hb3, hgr⟩ hK
    gi_wp2
    have hDz : w1.heap.size + 1 + 1 ≤ D := by simpa using hD
    refine ⟨by simp, .inl ⟨_, _, rfl, run_takeDeferred hK, ?_⟩⟩
    have hg := grownBy_putObj' W D (.deferred none)
    exact ⟨_, results_none rfl _ _ _, rfl, hb3.grown hg (fun e => by injection e with e; omega), gr_far hgr hg (fun j e => by injection e with e; omega)⟩
  case stop =>
    rintro D c pre W _ _ h _
    exact h.elim
end Go.Proofs.Ytjacbbefdmnmaaa
