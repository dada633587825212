/- onward and its function, over this seat's program. -/
import Derived.Test.YthfofnfkopnbhaaFit
import Derived.Test.YthfofnfkopnbhaaSeq
import Derived.Shelf.Abstract
import Derived.Shelf.RegionOpen
import Derived.TacticsInMore
import Derived.LoopNIn
import Derived.LoopIn
namespace Go.Proofs.Ythfofnfkopnbhaa
open Go.RowKit Go.Shelf
set_option linter.unusedVariables false
set_option maxRecDepth 100000
attribute [local go_sem] Oper.semAt_some

/-- What entry tells of a log that lay in an elder world. -/
def GaveK (es : List En) (K : Nat → Prop) (w : World) (i : Int) (x : Ending) (w' : World) : Prop :=
  ∃ e A c b, x = .returned (.tuple #[enA e A c, .bool b]) ∧ Below w.heap.size w w' ∧ Rd w K A c (u8s e.data) ∧ e.data.length ≤ c ∧ c ≤ maxLen ∧
    ((1 ≤ i ∧ es[(i - 1).toNat]? = some e ∧ b = true) ∨ (¬ (1 ≤ i ∧ i ≤ es.length) ∧ e = en0 ∧ b = false))
set_option maxHeartbeats 1000000 in
theorem entry_K (w : World) (p : Nat) (A : Option Addr) (c : Nat) (es : List En) (K : Nat → Prop) (i : Int) (h0 : w.cell? ⟨p, 0, none⟩ = some (.slice A es.length c)) (hp : p < w.heap.size) (he : Ents w K A c es) (hK : ∀ b, K b → b < w.heap.size) :
    Calls Try.prog 61 #[.pointer (some ⟨p, 0, none⟩), .int .i64 i] w (GaveK es K w i) := by
  have hn : es.length ≤ 9223372036854775807 := Nat.le_trans he.2.1 (Nat.le_trans he.2.2.1 (by decide))
  have hb1 : Below w.heap.size w (w.alloc (.cells #[.int .i64 0, .int .u8 0, .int .i64 0, .int .i64 0, .bool false, .slice none 0 0] 44)) := (Below.refl _ _).alloc (Nat.le_refl _) _
  by_cases h1 : i < 1
  · go_enter Try.func61, Try.ntmps61
    go_wp2_with fail
    exact bodyPost_ret (v := .tuple #[enA en0 none 0, .bool false]) (by simp [results, Try.results61, go_sem, enA, enV, en0]) rfl ⟨en0, none, 0, false, rfl, hb1, Rd.none_ _ _ _ _ (fun _ => rfl), Nat.le_refl _, by decide, .inr ⟨by omega, rfl, rfl⟩⟩
  · by_cases h2 : (es.length : Int) < i
    · have d1 : decide (i < 1) = false := decide_eq_false (by omega)
      have d2 : decide ((es.length : Int) < i) = true := decide_eq_true h2
      go_enter Try.func61, Try.ntmps61
      go_wp2_with fail
      exact bodyPost_ret (v := .tuple #[enA en0 none 0, .bool false]) (by simp [results, Try.results61, go_sem, enA, enV, en0]) rfl ⟨en0, none, 0, false, rfl, hb1, Rd.none_ _ _ _ _ (fun _ => rfl), Nat.le_refl _, by decide, .inr ⟨by omega, rfl, rfl⟩⟩
    · obtain ⟨k, rfl⟩ : ∃ k : Nat, i = k + 1 := ⟨(i - 1).toNat, by omega⟩
      have hk : k < es.length := by omega
      obtain ⟨a, x, D, d, rfl, ka, hx, ca, ra, la, ma⟩ := (he.keep (K' := K) (fun b hb => hb1.block b (hK b hb)) (fun _ h => h)).at_ hk
      obtain ⟨a0, a1, a2, a3, a4, a5⟩ := en6 ca
      clear ca
      have d1 : decide ((k : Int) + 1 < 1) = false := decide_eq_false (by omega)
      have d2 : decide ((es.length : Int) < (k : Int) + 1) = false := decide_eq_false (by omega)
      go_enter Try.func61, Try.ntmps61
      go_wp2_with fail
      refine bodyPost_ret (v := .tuple #[enA x D d, .bool true]) (by simp [results, Try.results61, go_sem, enA, enV]) rfl ⟨x, D, d, true, rfl, (Below.refl _ _).alloc (Nat.le_refl _) _, ra.keep (fun b hb => (hb1.block b (hK b hb)).symm) (fun _ h => h), la, ma, .inl ⟨by omega, ?_, rfl⟩⟩
      have := hx.out
      simpa using this

/-- An entry of a log that lay in wL, with the place of its bytes. -/
structure El (wL : World) (p : Nat) (es : List En) where
  e : En
  A : Option Addr
  c : Nat
  rd : Rd wL (LogK wL p) A c (u8s e.data)
  le : e.data.length ≤ c
  mx : c ≤ maxLen
  mem : e ∈ es
def encE {wL : World} {p : Nat} {es : List En} (x : El wL p es) : Array Value := #[enA x.e x.A x.c]
/-- The entries from an index on. -/
def fromI (es : List En) (i : Int) : List En := if 1 ≤ i then es.drop (i - 1).toNat else []

theorem onward_in (F : Fence) (n : Nat) (h23 : F.fn 59) (hro : F.round = none) (p : Nat) (i : Int) (w : World) :
    CallsIn F n Try.prog 59 #[.pointer (some ⟨p, 0, none⟩), .int .i64 i] w fun e w' => e = .returned (.func (.func 73) #[] #[.pointer (some ⟨w.heap.size, 0, none⟩), .pointer (some ⟨w.heap.size + 1, 0, none⟩)]) ∧ w' = (w.alloc (.cells #[.pointer (some ⟨p, 0, none⟩)] 101)).alloc (.cells #[.int .i64 i] 3) := by
  refine callsIn_of_wp Try.func59 rfl h23 ?_ hro
  simp only [Try.ntmps59, List.size_toArray, List.length_cons, List.length_nil, Nat.reduceAdd, Nat.reduceSub, Array.replicate_succ, Array.replicate_zero, List.push_toArray, List.append_toArray, List.nil_append, List.cons_append]
  gi_wp2
  go_ret
  exact ⟨rfl, rfl⟩

theorem set6 {w : World} {g : Nat} {c0 c1 c2 c3 c4 c5 : Value} {t : TypeId} (h : w.heap[g]? = some (.cells #[c0, c1, c2, c3, c4, c5] t (0, 0))) (v0 v1 v2 v3 v4 v5 : Value) :
    ((((((w.setCell ⟨g, 0, none⟩ v0).setCell ⟨g, 1, none⟩ v1).setCell ⟨g, 2, none⟩ v2).setCell ⟨g, 3, none⟩ v3).setCell ⟨g, 4, none⟩ v4).setCell ⟨g, 5, none⟩ v5).heap[g]? = some (.cells #[v0, v1, v2, v3, v4, v5] t (0, 0)) := by
  have h0 := heap_setCell_same w g 0 _ t v0 h
  have h1 := heap_setCell_same _ g 1 _ t v1 h0
  have h2 := heap_setCell_same _ g 2 _ t v2 h1
  have h3 := heap_setCell_same _ g 3 _ t v3 h2
  have h4 := heap_setCell_same _ g 4 _ t v4 h3
  have h5 := heap_setCell_same _ g 5 _ t v5 h4
  exact h5
/-- What entry says at an index. -/
def Is (es : List En) (i : Int) (e : En) (b : Bool) : Prop := (1 ≤ i ∧ es[(i - 1).toNat]? = some e ∧ b = true) ∨ (¬ (1 ≤ i ∧ i ≤ es.length) ∧ e = en0 ∧ b = false)
/-- The loop of onward's function, at a round's head: k entries have come. -/
def OnSt (wL : World) (bp bi p : Nat) (es : List En) (i : Int) (J : List (El wL p es) → World → Prop) (k : Nat) (pre : List (El wL p es)) (be : Nat) (e : En) (A : Option Addr) (c : Nat) (b : Bool) (wr : World) : Prop :=
  pre.length = k ∧ pre.map El.e = (fromI es i).take k ∧ (k = 0 ∨ 1 ≤ i) ∧ (∃ W0, J pre W0 ∧ Ag (fun k => ¬ k = bi) W0 wr ∧ bi < W0.heap.size ∧ W0.heap.size ≤ be) ∧ wr.heap[be]? = some (.cells (enV e A c).toArray 44 (0, 0)) ∧
    Rd wL (LogK wL p) A c (u8s e.data) ∧ e.data.length ≤ c ∧ c ≤ maxLen ∧ Is es (i + k) e b ∧ Below wL.heap.size wL wr ∧
    wr.heap[bp]? = some (.cells #[.pointer (some ⟨p, 0, none⟩)] 101 (0, 0)) ∧ wr.heap[bi]? = some (.cells #[.int .i64 (i + k)] 3 (0, 0))
def boxInt (w : World) (b : Nat) : Int := match w.heap[b]? with | some (.cells cs _ _) => (match cs.getD 0 undef with | .int _ j => j | _ => 0) | _ => 0
theorem boxInt_of {w : World} {b : Nat} {j : Int} {t : TypeId} (h : w.heap[b]? = some (.cells #[.int .i64 j] t (0, 0))) : boxInt w b = j := by unfold boxInt; rw [h]; rfl
theorem fromI_get {es : List En} {i : Int} {k : Nat} {e : En} (hi : k = 0 ∨ 1 ≤ i) (h1 : 1 ≤ i + k) (he : es[(i + k - 1).toNat]? = some e) : (fromI es i).take (k + 1) = (fromI es i).take k ++ [e] ∧ k < es.length ∧ 1 ≤ i ∧ i + k ≤ es.length := by
  have hi1 : 1 ≤ i := by rcases hi with rfl | h <;> omega
  have hl := (List.getElem?_eq_some_iff.1 he).1
  refine ⟨?_, by omega, hi1, by omega⟩
  rw [List.take_add_one]
  congr 1
  unfold fromI
  rw [if_pos hi1, List.getElem?_drop, show (i - 1).toNat + k = (i + k - 1).toNat by omega, he]
  rfl
theorem fromI_end {es : List En} {i : Int} {k : Nat} (hi : k = 0 ∨ 1 ≤ i) (h : ¬ (1 ≤ i + k ∧ i + k ≤ es.length)) : (fromI es i).take k = fromI es i := by
  unfold fromI
  split
  · rw [List.take_of_length_le]
    simp
    omega
  · simp
set_option maxRecDepth 100000 in
set_option maxHeartbeats 2000000 in
theorem onward1_in (n : Nat) (hn : 1 ≤ n) (l bp bi p g : Nat) (m : Bool) (v : Value) (es : List En) (ds : List (Option Addr × Nat)) (i : Int) (wL : World) (hL : LogAt wL p g m v es ds) (hes : es.length ≤ 1000000) (hbp : wL.heap.size ≤ bp) (hbi : wL.heap.size ≤ bi) (hne : bp ≠ bi)
    (J Jx : List (El wL p es) → World → Prop)
    (hY : ∀ pre x W0 W1, J pre W0 → Ag (fun k => ¬ k = bi) W0 W1 → pre.length < es.length → YieldAt Fence.wide (n - 1) Try.prog l (encE x) W1 fun e W' =>
      (e = .returned (.bool true) ∧ J (pre ++ [x]) W' ∧ Ag (fun k => (k < wL.heap.size ∨ k = bp ∨ k = bi) ∨ W0.heap.size ≤ k) W1 W') ∨ (e = .returned (.bool false) ∧ Jx (pre ++ [x]) W'))
    (W : World) (hW : Below wL.heap.size wL W) (b1 : W.heap[bp]? = some (.cells #[.pointer (some ⟨p, 0, none⟩)] 101 (0, 0))) (b2 : W.heap[bi]? = some (.cells #[.int .i64 i] 3 (0, 0))) (h0 : J [] W) :
    CallsIn Fence.wide n Try.prog 73 #[.func (.yield l) #[] #[], .pointer (some ⟨bp, 0, none⟩), .pointer (some ⟨bi, 0, none⟩)] W fun e W' => (∃ v, e = .returned v) ∧
      ((∃ xs W0, xs.map El.e = fromI es i ∧ J xs W0 ∧ Ag (fun k => ¬ k = bi) W0 W') ∨ (∃ pre W0, (∃ k, pre.map El.e = (fromI es i).take k) ∧ Jx pre W0 ∧ Ag (fun k => ¬ k = bi) W0 W')) := by
  obtain ⟨A, c, rfl, he⟩ := hL.ents
  have c1 : W.cell? ⟨bp, 0, none⟩ = some (.pointer (some ⟨p, 0, none⟩)) := by rw [cell_of_row _ _ 0 _ _ _ b1]; rfl
  have c2 : W.cell? ⟨bi, 0, none⟩ = some (.int .i64 i) := by rw [cell_of_row _ _ 0 _ _ _ b2]; rfl
  have hcon : ∀ (n : Nat) (W : World) (j : Int), Below wL.heap.size wL W → CallsIn Fence.wide n Try.prog 61 #[.pointer (some ⟨p, 0, none⟩), .int .i64 j] W (GaveK es (LogK wL p) W j) := by
    intro n W j hW
    exact callsIn_wide.2 (entry_K W p A c es (LogK wL p) j ((hL.below hW).c0) (Nat.lt_of_lt_of_le hL.plt hW.size) (he.keep (fun b hb => hW.block b hb.1) (fun _ h => h)) (fun b hb => Nat.lt_of_lt_of_le hb.1 hW.size))
  refine callsIn_of_wp Try.func73 rfl trivial ?_ rfl
  simp only [Try.ntmps73, List.size_toArray, List.length_cons, List.length_nil, Nat.reduceAdd, Nat.reduceSub, Array.replicate_succ, Array.replicate_zero, List.push_toArray, List.append_toArray, List.nil_append, List.cons_append]
  gi_wp2_with (refine ⟨trivial, ?_⟩; gi_at_call 61; refine (hcon _ _ _ hW).mono ?_; rintro _ w1 ⟨x, A1, c1', b, rfl, hb, hr, hl, hm, hx⟩; have HX := Lib.hid hx; clear hx; simp only [enA, enV])
  gi_loopw [4, 5] (fun t4 t5 wr => ∃ k pre be e A c b, t4 = .pointer (some ⟨be, 0, none⟩) ∧ t5 = .bool b ∧ OnSt wL bp bi p es i J k pre be e A c b wr) (fun _ _ wr => (es.length + 1 - boxInt wr bi).toNat)
  case atStart =>
    have z1 := (Array.getElem?_eq_some_iff.1 b1).1
    have z2 := (Array.getElem?_eq_some_iff.1 b2).1
    have hb' : Below W.heap.size W (w1.alloc (.cells #[.int .i64 x.term, .int .u8 x.kind, .int .i64 x.ver, .int .i64 x.srv, .bool x.good, .slice A1 x.data.length c1'] 44)) := hb.alloc hb.size _
    refine ⟨0, [], w1.heap.size, x, A1, c1', b, rfl, rfl, rfl, rfl, .inl rfl, ⟨W, h0, Ag.of_below _ hb', z2, hb.size⟩, heap_alloc_new w1 _, hr.keep (fun b hb => (hW.block b hb.1).symm) (fun _ h => h), hl, hm, ?_, hW.trans (hb'.mono hW.size), (hb'.block _ z1).trans b1, ?_⟩
    · show Is es (i + ((0 : Nat) : Int)) x b
      rw [show i + ((0 : Nat) : Int) = i by simp]
      exact HX.out
    · simpa using (hb'.block _ z2).trans b2
  case round =>
    obtain ⟨k, pre, be, e, A2, c2', b', rfl, rfl, hlen, hpre, hk, ⟨W0, hJ, hAg, hz0, hz1⟩, hbe, hrd, hle, hmx, his, hbel, hb1, hb2⟩ := hrel
    have c1 : wr.cell? ⟨bp, 0, none⟩ = some (.pointer (some ⟨p, 0, none⟩)) := by rw [cell_of_row _ _ 0 _ _ _ hb1]; rfl
    have c2 : wr.cell? ⟨bi, 0, none⟩ = some (.int .i64 (i + k)) := by rw [cell_of_row _ _ 0 _ _ _ hb2]; rfl
    obtain ⟨a0, a1, a2, a3, a4, a5⟩ := cells6 hbe
    have HB := Lib.hid (boxInt_of hb2)
    rcases his with ⟨hi1, hie, rfl⟩ | ⟨hi1, rfl, rfl⟩
    · obtain ⟨ht, hke, hi, hile⟩ := fromI_get hk hi1 hie
      have HT := Lib.hid ht
      obtain ⟨fn, tmps, assign, body, hy, hR⟩ := hY pre ⟨e, A2, c2', hrd, hle, hmx, List.mem_of_getElem? hie⟩ W0 wr hJ hAg (by omega)
      clear ht
      simp only [encE, enA, enV] at hy
      gi_wp2
      refine hR.mono ?_
      rintro x W3 (⟨rfl, hJ3, hk3⟩ | ⟨rfl, hJx3⟩)
      · have hW3 : Below wL.heap.size wL W3 := hbel.trans (hk3.below hbel.size (fun k hk => .inl (.inl hk)))
        have hz := hAg.size
        have hbe3 : W3.heap[be]? = _ := (hk3.block be (Array.getElem?_eq_some_iff.1 hbe).1 (.inr hz1)).trans hbe
        have hb13 : W3.heap[bp]? = _ := (hk3.block bp (Array.getElem?_eq_some_iff.1 hb1).1 (.inl (.inr (.inl rfl)))).trans hb1
        have hb23 : W3.heap[bi]? = _ := (hk3.block bi (Array.getElem?_eq_some_iff.1 hb2).1 (.inl (.inr (.inr rfl)))).trans hb2
        clear c1 c2 a0 a1 a2 a3 a4 a5 hbel hAg hJ hy hR hbe hb1 hb2
        have c1 : W3.cell? ⟨bp, 0, none⟩ = some (.pointer (some ⟨p, 0, none⟩)) := by rw [cell_of_row _ _ 0 _ _ _ hb13]; rfl
        have c2 : W3.cell? ⟨bi, 0, none⟩ = some (.int .i64 (i + k)) := by rw [cell_of_row _ _ 0 _ _ _ hb23]; rfl
        have f2 := frozen_blk hb23 0
        obtain ⟨a0, a1, a2, a3, a4, a5⟩ := cells6 hbe3
        have hnb : be ≠ bi := by omega
        obtain ⟨W4, hW4⟩ : ∃ W4, W4 = W3.setCell ⟨bi, 0, none⟩ (.int .i64 (i + k + 1)) := ⟨_, rfl⟩
        have hb24 : W4.heap[bi]? = some (.cells #[.int .i64 (i + k + 1)] 3 (0, 0)) := by rw [hW4, heap_setCell_same _ _ _ _ _ _ hb23]; rfl
        have hk4 : ∀ b, b ≠ bi → W4.heap[b]? = W3.heap[b]? := fun b hb => by rw [hW4]; exact Below.heap_setCell _ _ _ _ hb
        have hz4 : W4.heap.size = W3.heap.size := by rw [hW4]; simp [World.setCell]
        have hW4b : Below wL.heap.size wL W4 := by rw [hW4]; exact hW3.setCell hbi _
        have hA4 : Ag (fun k => ¬ k = bi) W3 W4 := by rw [hW4]; exact (Ag.refl _ _).setCell (fun _ h => h rfl) _
        have e0 : W4.cell? ⟨be, 0, none⟩ = some (.int .i64 e.term) := (World.cell?_of_block (hk4 be hnb)).trans a0
        have e1 : W4.cell? ⟨be, 1, none⟩ = some (.int .u8 e.kind) := (World.cell?_of_block (hk4 be hnb)).trans a1
        have e2 : W4.cell? ⟨be, 2, none⟩ = some (.int .i64 e.ver) := (World.cell?_of_block (hk4 be hnb)).trans a2
        have e3 : W4.cell? ⟨be, 3, none⟩ = some (.int .i64 e.srv) := (World.cell?_of_block (hk4 be hnb)).trans a3
        have e4 : W4.cell? ⟨be, 4, none⟩ = some (.bool e.good) := (World.cell?_of_block (hk4 be hnb)).trans a4
        have e5 : W4.cell? ⟨be, 5, none⟩ = some (.slice A2 e.data.length c2') := (World.cell?_of_block (hk4 be hnb)).trans a5
        have hb14 : W4.heap[bp]? = some (.cells #[.pointer (some ⟨p, 0, none⟩)] 101 (0, 0)) := (hk4 bp hne).trans hb13
        have d1 : ∀ o, (W4.alloc o).cell? ⟨bp, 0, none⟩ = some (.pointer (some ⟨p, 0, none⟩)) := fun o => by rw [cell_of_row _ _ 0 _ _ _ ((heap_alloc_old W4 o (Array.getElem?_eq_some_iff.1 hb14).1).trans hb14)]; rfl
        have d2 : ∀ o, (W4.alloc o).cell? ⟨bi, 0, none⟩ = some (.int .i64 (i + k + 1)) := fun o => by rw [cell_of_row _ _ 0 _ _ _ ((heap_alloc_old W4 o (Array.getElem?_eq_some_iff.1 hb24).1).trans hb24)]; rfl
        have hW4' := hW4.symm
        have HZ := Lib.hid hz4
        clear a0 a1 a2 a3 a4 a5 hW4 hk4 hz4
        gi_wp2_with fail
        have hz4 := HZ.out
        have hbo : Below W4.heap.size W4 (W4.alloc (.cells #[.int .i64 e.term, .int .u8 e.kind, .int .i64 e.ver, .int .i64 e.srv, .bool e.good, .slice A2 e.data.length c2'] 44)) := (Below.refl _ _).alloc (Nat.le_refl _) _
        have hnew := heap_alloc_new W4 (.cells #[.int .i64 e.term, .int .u8 e.kind, .int .i64 e.ver, .int .i64 e.srv, .bool e.good, .slice A2 e.data.length c2'] 44)
        have hsz5 : (W4.alloc (.cells #[.int .i64 e.term, .int .u8 e.kind, .int .i64 e.ver, .int .i64 e.srv, .bool e.good, .slice A2 e.data.length c2'] 44)).heap.size = W4.heap.size + 1 := by simp
        refine ⟨trivial, (hcon _ _ _ (hW4b.alloc hW4b.size _)).mono ?_⟩
        rintro _ w5 ⟨x5, A5, c5, b5, rfl, hb5, hr5, hl5, hm5, hx5⟩
        have HX5 := Lib.hid hx5
        rw [hsz5] at hb5
        have n5 : w5.heap[W4.heap.size]? = _ := (hb5.block _ (Nat.lt_succ_self _)).trans hnew
        have hr5' : Rd wL (LogK wL p) A5 c5 (u8s x5.data) := hr5.keep (fun b hb => ((hW4b.alloc hW4b.size _).block b hb.1).symm) (fun _ h => h)
        have hb54 : Below W4.heap.size W4 w5 := hbo.trans (hb5.mono (by omega))
        have hZ5 : W4.heap.size + 1 ≤ w5.heap.size := by have := hb5.size; omega
        clear hx5 hnew hbo hsz5 d1 d2 hr5 hb5 e0 e1 e2 e3 e4 e5 hW4' hz4
        obtain ⟨a0, a1, a2, a3, a4, a5⟩ := cells6 n5
        have g0 := frozen_blk n5
        simp only [enA, enV]
        gi_wp2_with fail
        go_roundw
        case rel =>
          have k5 : w5.heap[bi]? = _ := (hb54.block bi (Array.getElem?_eq_some_iff.1 hb24).1).trans hb24
          have k6 : w5.heap[bp]? = _ := (hb54.block bp (Array.getElem?_eq_some_iff.1 hb14).1).trans hb14
          have hbw5 := hW4b.trans (hb54.mono hW4b.size)
          have hA5 : Ag (fun k => ¬ k = bi) W3 w5 := hA4.trans (Ag.of_below _ hb54)
          have hz4 := HZ.out
          have z1 := (Array.getElem?_eq_some_iff.1 hb24).1
          have z2 := (Array.getElem?_eq_some_iff.1 hb14).1
          refine ⟨k + 1, pre ++ [⟨e, A2, c2', hrd, hle, hmx, List.mem_of_getElem? hie⟩], W4.heap.size, x5, A5, c5, b5, rfl, rfl, by simp [hlen], by simp [hpre, HT.out], .inr hi, ⟨W3, hJ3, ?_, by omega, by omega⟩, ?_, hr5', hl5, hm5, ?_, ?_, ?_, ?_⟩
          · exact (((((hA5.setCell (fun h => absurd h (by show ¬ W4.heap.size < _; omega)) _).setCell (fun h => absurd h (by show ¬ W4.heap.size < _; omega)) _).setCell (fun h => absurd h (by show ¬ W4.heap.size < _; omega)) _).setCell (fun h => absurd h (by show ¬ W4.heap.size < _; omega)) _).setCell (fun h => absurd h (by show ¬ W4.heap.size < _; omega)) _).setCell (fun h => absurd h (by show ¬ W4.heap.size < _; omega)) _
          · exact set6 n5 _ _ _ _ _ _
          · rw [show i + ((k + 1 : Nat) : Int) = i + k + 1 by omega]
            exact HX5.out
          · exact (((((hbw5.setCell hW4b.size _).setCell hW4b.size _).setCell hW4b.size _).setCell hW4b.size _).setCell hW4b.size _).setCell hW4b.size _
          · iterate 6 rw [Below.heap_setCell _ _ _ _ (by show bp ≠ _; simp only []; omega)]
            exact k6
          · iterate 6 rw [Below.heap_setCell _ _ _ _ (by show bi ≠ _; simp only []; omega)]
            rw [show i + ((k + 1 : Nat) : Int) = i + k + 1 by omega]
            exact k5
        case measure =>
          have k5 : w5.heap[bi]? = _ := (hb54.block bi (Array.getElem?_eq_some_iff.1 hb24).1).trans hb24
          have hz4 := HZ.out
          have z1 := (Array.getElem?_eq_some_iff.1 hb24).1
          rw [HB.out]
          rw [boxInt_of (j := i + k + 1) (t := 3) (by iterate 6 rw [Below.heap_setCell _ _ _ _ (by show bi ≠ _; simp only []; omega)]
                                                      exact k5)]
          omega
      · gi_wp2
        refine bodyPost_end (results_none rfl _ _ _) rfl ?_
        exact ⟨⟨_, rfl⟩, .inr ⟨_, W3, ⟨k + 1, by simp [hpre, HT.out]⟩, hJx3, Ag.refl _ _⟩⟩
    · gi_wp2
      refine ⟨fun f h => (by cases h), ?_⟩
      gi_wp2
      refine bodyPost_end (results_none rfl _ _ _) rfl ?_
      exact ⟨⟨_, rfl⟩, .inl ⟨pre, W0, by rw [hpre]; exact fromI_end hk hi1, hJ, hAg⟩⟩
end Go.Proofs.Ythfofnfkopnbhaa
