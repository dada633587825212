/- net: the keys of the map, one after the other. -/
import Derived.Test.YtenkhbiikecegaaGreatNSt
import Derived.RangeFuncNested
import Derived.RangeFuncBound
import Derived.RangeFuncCalls
import Derived.RangeFuncLeaves
import Derived.Shelf.Abstract
import Derived.Shelf.RegionOpen
import Derived.WalkKit
import Derived.OwnWalkIn
import Derived.TacticsInMore
import Derived.LoopNIn
import Derived.LoopIn
import Derived.Sort.MapsRangeIn
namespace Go.Proofs.YtenkhbiikecegaaGreat
open Go.RowKit Go.Maps Go.ChangeMaps Go.Shelf
attribute [local go_sem] Oper.semAt_some
set_option linter.unusedVariables false
set_option linter.unusedSimpArgs false
set_option maxRecDepth 100000

/-- A link's two numbers. -/
abbrev LK := { x : Int × Int // I64 x.1 ∧ I64 x.2 }
def encL (x : LK) : Value := linkV x.1.1 x.1.2
theorem encL_inj {x y : LK} (h : encL x = encL y) : x = y := by
  obtain ⟨h1, h2⟩ := linkV_inj h
  exact Subtype.ext (Prod.ext h1 h2)
section
variable {F : Fence} {n : Nat} {P : Program} {w : World} {ops : Array Oper} {rest : List Oper} {o : Oper} {a : Act} {Q : Exit → Act → World → Prop}
theorem wpListIn_range_raw (hg : o.guard = none) (m : Operand) (t : TypeId) (hop : o.op = Op.range t m) (k e : TypeId) (ht : P.underlying t = some (.map k e)) (b : Nat) (es : Array MapEntry) (ck : Nat)
    (hm : a.eval m = .map (some b)) (hb : w.heap[b]? = some (.map es ck))
    (hK : wpListIn F n P ops Q rest (a.put o.dst (.pointer (some ⟨w.heap.size, 0, none⟩))) (w.alloc (.mapIter (some b) ck #[] ck))) :
    wpListIn F n P ops Q (o :: rest) a w := by
  refine wpListIn_plain hg fun K' hK' => ?_
  have hrun := run_range_map (P := P) w t k e b es ck ht hb
  unfold Oper.wpIn
  refine ⟨?_, ?_⟩
  · simp [Oper.about, hop]
  · rw [Oper.semAt_plain F _ _ (by rw [hop]; intro c hc'; cases hc')]
    simp [execOp, hop, hm, hrun, Result.andThen]
    exact hK' _ _ hK
theorem wpListIn_next_raw (hg : o.guard = none) (it : Operand) (hop : o.op = Op.next it false) (b r ck c0 : Nat) (seen : Array Nat) (es : List MapEntry)
    (hit : a.eval it = .pointer (some ⟨r, 0, none⟩)) (hb : w.heap[b]? = some (.map es.toArray ck)) (hr : w.heap[r]? = some (.mapIter (some b) ck seen c0)) (hold : ∀ x ∈ es, x.born < ck) (hsc : ck ≤ c0)
    (hnd : (es.map (·.born)).Nodup) (hkeys : ∀ e ∈ es, ∃ x : LK, e.key = encL x)
    (hDone : (∀ x ∈ es, x.born ∈ seen.toList) → wpListIn F n P ops Q rest (a.put o.dst (.tuple #[.bool false])) w)
    (hMore : ∀ (e : MapEntry) (x1 x2 : Int) (v : Value) (w2 : World), I64 x1 → I64 x2 → e ∈ es → e.born ∉ seen.toList → e.key = linkV x1 x2 → w2.heap[b]? = some (.map es.toArray ck) → w2.heap[r]? = some (.mapIter (some b) ck (seen.push e.born) ck) → w.grownBy w2 (some r) → w2.heap.size = w.heap.size →
      w2.rangeLeft b r < w.rangeLeft b r →
      (Instr.entry (.pointer (some ⟨r, 0, none⟩))).run P w2 = .ok (.tuple #[linkV x1 x2, v]) w2 → wpListIn F n P ops Q rest (a.put o.dst (.tuple #[.bool true, linkV x1 x2, v])) w2) :
    wpListIn F n P ops Q (o :: rest) a w := by
  refine wpListIn_plain hg fun K' hK' => ?_
  unfold Oper.wpIn
  refine ⟨by simp [Oper.about, hop], ?_⟩
  rw [Oper.semAt_plain F _ _ (by rw [hop]; intro c hc'; cases hc')]
  have hne : b ≠ r := by rintro rfl; rw [hb] at hr; cases hr
  rcases run_next_at (P := P) w o.type r b ck c0 seen es.toArray ck hr hb (by simpa using hold) hsc with ⟨h0, hrun⟩ | ⟨e, he, w1, hal, hrun⟩
  · simp [execOp, hop, hit, hrun, Result.andThen]
    exact hK' _ _ (hDone fun x hx => by
      have := all_seen es.toArray seen h0 x (by simpa using hx)
      simpa using this)
  · have hml := mem_left he
    have hes : e ∈ es := by simpa using hml.1
    obtain ⟨x, hx⟩ := hkeys e hes
    have hw1 : w1.heap = w.heap := by rcases hal with rfl | rfl <;> rfl
    have hrl : r < w1.heap.size := by rw [hw1]; exact (Array.getElem?_eq_some_iff.1 hr).1
    have hs1 : (setBlock w1 r (.mapIter (some b) ck (seen.push e.born) ck)).heap[r]? = some (.mapIter (some b) ck (seen.push e.born) ck) := by simp [setBlock, hrl]
    have hs2 : ∀ k, k ≠ r → (setBlock w1 r (.mapIter (some b) ck (seen.push e.born) ck)).heap[k]? = w.heap[k]? := fun k hk => by rw [← hw1]; simp [setBlock, Array.getElem?_setIfInBounds_ne (fun q => hk q.symm)]
    simp [execOp, hop, hit, hrun, Result.andThen]
    have key := hMore e x.1.1 x.1.2 e.val (setBlock w1 r (.mapIter (some b) ck (seen.push e.born) ck)) x.2.1 x.2.2 hes (by have := hml.2; simpa using this) hx ((hs2 b hne).trans hb) hs1
      (by rcases hal with rfl | rfl <;> exact ⟨rfl, rfl, rfl, by simp [setBlock], fun i _ hi => hs2 i (fun e1 => hi (by rw [e1]))⟩) (by simp [setBlock, hw1])
      (by
        simp only [World.rangeLeft, hs1, (hs2 b hne).trans hb, hb, hr]
        exact left_shrinks es.toArray seen e he)
      (by rw [← show encL x = linkV x.1.1 x.1.2 from rfl, ← hx]; exact run_entry_at _ r b ck seen es.toArray ck e hs1 ((hs2 b hne).trans hb) (by simpa using hes) (by simpa using hnd))
    rw [hx]
    unfold encL
    exact hK' _ _ key
end
theorem nodup_of_map {α β : Type} (f : α → β) {l : List α} (h : (l.map f).Nodup) : l.Nodup := (List.pairwise_map.1 h).imp (fun hne e => hne (congrArg f e))
theorem len_le_of_sub {α : Type} : ∀ (l l' : List α), l.Nodup → (∀ x ∈ l, x ∈ l') → l.length ≤ l'.length
  | [], _, _, _ => Nat.zero_le _
  | x :: l, l', hn, hs => by
    obtain ⟨s, t, rfl⟩ := List.append_of_mem (hs x (by simp))
    have hn' := List.nodup_cons.1 hn
    have := len_le_of_sub l (s ++ t) hn'.2 (fun y hy => by
      have := hs y (by simp [hy])
      simp at this ⊢
      rcases this with h | rfl | h
      · exact .inl h
      · exact absurd hy hn'.1
      · exact .inr h)
    simp at this ⊢
    omega
/-- What has come is all of it, in some order. -/
theorem come_perm {es ss : List MapEntry} {xs ks : List LK} (hsub : ∀ e ∈ ss, e ∈ es) (hnd : (ss.map (·.born)).Nodup) (hes : (es.map (·.born)).Nodup) (hall : ∀ x ∈ es, x.born ∈ ss.map (·.born)) (hx : xs.map encL = ss.map (·.key)) (hk : es.map (·.key) = ks.map encL) : (xs.map encL).Perm (ks.map encL) := by
  rw [hx, ← hk]
  refine List.Perm.map _ ?_
  have nd1 : ss.Nodup := nodup_of_map _ hnd
  have nd2 : es.Nodup := nodup_of_map _ hes
  refine (List.perm_ext_iff_of_nodup nd1 nd2).2 fun e => ⟨hsub e, fun he => ?_⟩
  obtain ⟨e', he', hb⟩ := List.mem_map.1 (hall e he)
  obtain rfl : e' = e := by
    have := born_inj hes (hsub e' he') he hb
    exact this
  exact he'
set_option maxHeartbeats 1000000 in
theorem keys1_in {es : List MapEntry} {ck : Nat} (hes : EsOk Tryz.prog 58 es ck) (ks : List LK) (hks : es.map (·.key) = ks.map encL) (F : Fence) (n : Nat) (h29 : F.fn 45) (hro : F.round = none) (hn : 1 ≤ n) (l Bm m : Nat) (J Jx : List LK → World → Prop)
    (hY : ∀ pre x W, J pre W → pre.length < ks.length → YieldAt F (n - 1) Tryz.prog l #[encL x] W fun e W' =>
      (e = .returned (.bool true) ∧ J (pre ++ [x]) W' ∧ KeepsWalks W W') ∨ (e = .returned (.bool false) ∧ Jx (pre ++ [x]) W'))
    (W : World) (hJ : AbidesFrom W.heap.size J) (hm : W.cell? ⟨Bm, 0, none⟩ = some (.map (some m))) (hmap : W.heap[m]? = some (.map es.toArray ck)) (h0 : J [] W) :
    CallsIn F n Tryz.prog 45 #[.func (.yield l) #[] #[], .pointer (some ⟨Bm, 0, none⟩)] W fun e W' => (∃ v, e = .returned v) ∧
      ((∃ xs : List LK, (xs.map encL).Perm (ks.map encL) ∧ J xs W') ∨ (∃ pre : List LK, True ∧ Jx pre W')) := by
  have hbn : (es.map (·.born)).Nodup := by
    have := hes.bapart
    rw [List.Nodup, List.pairwise_map]
    exact this
  have hkk : ∀ e ∈ es, ∃ x : LK, e.key = encL x := by
    intro e he
    have : e.key ∈ ks.map encL := by rw [← hks]; exact List.mem_map.2 ⟨e, he, rfl⟩
    obtain ⟨x, _, hx⟩ := List.mem_map.1 this
    exact ⟨x, hx.symm⟩
  have hlen : es.length = ks.length := by simpa using congrArg List.length hks
  have hKS := Lib.hid hks
  have hMP := Lib.hid hmap
  have hBN := Lib.hid hbn
  clear hks hbn
  refine callsIn_of_wp Tryz.func45 rfl h29 ?_ hro
  simp only [Tryz.ntmps45, List.size_toArray, List.length_cons, List.length_nil, Nat.reduceAdd, Nat.reduceSub, Array.replicate_succ, Array.replicate_zero, List.push_toArray, List.append_toArray, List.nil_append, List.cons_append]
  gi_wp2_with (first
    | (gi_at_range; refine wpListIn_range_raw rfl _ 44 rfl 58 27 mapTy m es.toArray ck rfl hMP.out ?_)
    | gi_in)
  go_frame
  gi_loopw [3] (fun _ wr => ∃ (seen : Array Nat) (c0 : Nat) (ss : List MapEntry) (xs : List LK), wr.heap[m]? = some (.map es.toArray ck) ∧ wr.heap[W.heap.size]? = some (.mapIter (some m) ck seen c0) ∧ ck ≤ c0 ∧ seen.toList = ss.map (·.born) ∧ (∀ e ∈ ss, e ∈ es) ∧ (ss.map (·.born)).Nodup ∧ xs.map encL = ss.map (·.key) ∧ J xs wr)
    (fun _ wr => wr.rangeLeft m W.heap.size)
  case atStart =>
    exact ⟨#[], ck, [], [], (heap_alloc_old W _ (Array.getElem?_eq_some_iff.1 hMP.out).1).trans hMP.out, heap_alloc_new W _, Nat.le_refl _, rfl, by simp, by simp, rfl, hJ [] W _ none h0 (World.grownBy_alloc W _ none) (fun r e => by cases e)⟩
  case round =>
    obtain ⟨seen, c0, ss, xs, q1, q2, q3, q4, q5, q6, q7, q8⟩ := hrel
    have Q4 := Lib.hid q4
    have Q7 := Lib.hid q7
    clear q4 q7
    gi_wp2_with (first
      | (gi_at_next; refine wpListIn_next_raw rfl _ rfl m W.heap.size ck c0 seen es rfl q1 q2 hes.born q3 hBN.out hkk ?_ ?_)
      | gi_in)
    · intro hall
      have HA := Lib.hid hall
      clear hall
      gi_wp2
      go_end0
      refine ⟨⟨_, rfl⟩, .inl ⟨xs, come_perm q5 q6 hBN.out (fun x hx => by rw [← Q4.out]; have := HA.out x hx; simpa using this) Q7.out hKS.out, q8⟩⟩
    · intro e x1 x2 v w2 hx1 hx2 he hne hkey p1 p2 hg hs hlt hen
      have hJ2 : J xs w2 := hJ xs _ w2 (some W.heap.size) q8 hg (fun r e => by cases e; exact ⟨Nat.le_refl _, _, q2, rfl⟩)
      have hxl : xs.length < ks.length := by
        have e1 : xs.length = ss.length := by simpa using congrArg List.length Q7.out
        rw [e1, ← hlen]
        have hsp : (ss ++ [e]).Nodup ∧ ∀ y ∈ ss ++ [e], y ∈ es := by
          refine ⟨?_, fun y hy => by simp at hy; rcases hy with hy | rfl <;> first | exact q5 y hy | exact he⟩
          rw [List.nodup_append]
          refine ⟨nodup_of_map _ q6, by simp, fun y hy z hz => ?_⟩
          simp at hz
          subst hz
          rintro rfl
          exact hne (Array.mem_toList_iff.1 (by rw [Q4.out]; exact List.mem_map.2 ⟨_, hy, rfl⟩))
        have := len_le_of_sub _ _ hsp.1 hsp.2
        simp at this
        omega
      have hJ3 : J xs (w2.alloc (.cells #[.int .i64 x1, .int .i64 x2] 58)) := hJ xs w2 _ none hJ2 (World.grownBy_alloc w2 _ none) (fun r e => by cases e)
      obtain ⟨fn, tmps, assign, body, hy, hR⟩ := hY xs ⟨(x1, x2), hx1, hx2⟩ _ hJ3 hxl
      have HK := Lib.hid hkey
      have HN := Lib.hid hne
      have HLt := Lib.hid hlt
      have HP1 := Lib.hid p1
      have HP2 := Lib.hid p2
      clear hkey hne hs hlt p1 p2
      unfold encL at hy
      unfold linkV at hy hen ⊢
      gi_wp2
      refine hR.mono ?_
      rintro e' W3 (⟨rfl, hJ4, hk3⟩ | ⟨rfl, hJx3⟩)
      · gi_wp2
        have m3 := hk3.same m _ ((heap_alloc_old w2 _ (Array.getElem?_eq_some_iff.1 HP1.out).1).trans HP1.out) rfl
        have r3 := hk3.same W.heap.size _ ((heap_alloc_old w2 _ (Array.getElem?_eq_some_iff.1 HP2.out).1).trans HP2.out) rfl
        go_roundw
        case rel =>
          refine ⟨_, ck, ss ++ [e], xs ++ [⟨(x1, x2), hx1, hx2⟩], m3, r3, Nat.le_refl _, by simp [Q4.out], fun y hy => by simp at hy; rcases hy with hy | rfl <;> first | exact q5 y hy | exact he, ?_, by simp [Q7.out, HK.out, encL], hJ4⟩
          rw [List.map_append, List.nodup_append]
          refine ⟨q6, by simp, fun y hy z hz => ?_⟩
          simp at hz
          subst hz
          rintro rfl
          exact HN.out (Array.mem_toList_iff.1 (by rw [Q4.out]; exact hy))
        case measure =>
          have e1 : W3.rangeLeft m W.heap.size = w2.rangeLeft m W.heap.size := by simp only [World.rangeLeft, m3, r3, HP1.out, HP2.out]
          have e2 := HLt.out
          rw [← e1] at e2
          exact e2
      · gi_wp2
        refine bodyPost_ret (results_none rfl _ _ _) rfl ?_
        exact ⟨⟨_, rfl⟩, .inr ⟨_, trivial, hJx3⟩⟩
/-- maps.Keys. -/
theorem keys_any (m : Nat) (w : World) :
    Calls Tryz.prog 29 #[.map (some m)] w fun e w' => e = .returned (.func (.func 45) #[] #[.pointer (some ⟨w.heap.size, 0, none⟩)]) ∧ w' = w.alloc (.cells #[.map (some m)] 44) := by
  go_enter Tryz.func29, Tryz.ntmps29
  go_wp2_with fail
  go_ret
  exact ⟨rfl, rfl⟩
/-- .. hands back a value that can be ranged over. -/
theorem keys_stops {es : List MapEntry} {ck : Nat} (hes : EsOk Tryz.prog 58 es ck) (ks : List LK) (hks : es.map (·.key) = ks.map encL) (F : Fence) (n : Nat) (h29 : F.fn 45) (hro : F.round = none) (hn : 1 ≤ n) (Bm m : Nat) (w : World) (hBm : Bm < w.heap.size)
    (hm : w.cell? ⟨Bm, 0, none⟩ = some (.map (some m))) (hmap : w.heap[m]? = some (.map es.toArray ck)) :
    SeqStopsK F n Tryz.prog 45 #[.pointer (some ⟨Bm, 0, none⟩)] (fun x : LK => #[encL x]) KeepsWalks (fun xs => (xs.map encL).Perm (ks.map encL)) (fun _ => True) ks.length w := fun l J Jx W hW hJ _ hY h0 =>
  keys1_in hes ks hks F n h29 hro hn l Bm m J Jx hY W hJ ((hW.cell (p := ⟨Bm, 0, none⟩) hBm).trans hm) ((hW.block m (Array.getElem?_eq_some_iff.1 hmap).1).trans hmap) h0
end Go.Proofs.YtenkhbiikecegaaGreat
