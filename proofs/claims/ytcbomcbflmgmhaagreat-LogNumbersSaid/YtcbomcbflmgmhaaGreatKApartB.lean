/- ApartBytes, ApartEntries: over this seat's program. -/
import Derived.Test.YtcbomcbflmgmhaaGreatKApart
namespace Go.Proofs.YtcbomcbflmgmhaaGreat
open Go.RowKit
set_option linter.unusedVariables false
set_option maxRecDepth 100000

theorem Fl.none {w : World} {e : TypeId} {size : Nat} : Fl w e size (fun _ => False) [] (fun _ => []) := ⟨fun k x h => by simp at h, fun k x h => by simp at h, fun k k' x x' h => by simp at h⟩
theorem BagS.new (w : World) : BagS (w.alloc (.cells (bagV (.slice none 0 0) (.slice none 0 0)) 101)) w.heap.size w.heap.size (.slice none 0 0) [] (.slice none 0 0) [] :=
  ⟨heap_alloc_new w _, Nat.le_refl _, World.ownsRow_nil _ _ _ _, World.ownsRow_nil _ _ _ _, (fun e => by cases e), (fun e => by cases e), (fun g e => by cases e)⟩
set_option maxHeartbeats 1000000 in
theorem ApartBytes_any (S : Nat → Prop) (ls : List Fs) (C : Nat → List Value) (A : Option Addr) (c : Nat) (w : World) (h : Fl w 5 1 S ls C) (ho : Outer w S A c ls) (hS : ∀ b, S b → b < w.heap.size) (hn : ls.length ≤ 1000000) (hl : ∀ x ∈ ls, x.n ≤ 1000000) :
    Calls Tryz.prog 37 #[.slice A ls.length c] w fun e w' => e = .returned (.bool true) ∧ Ag (fun b => ¬ S b) w w' := by
  have hB0 := BagS.new w
  unfold bagV at hB0
  have HB := Lib.hid hB0
  clear hB0
  go_enter Tryz.func37, Tryz.ntmps37
  go_wp2_with fail
  go_loopw [4] (fun i wr => ∃ k : Nat, k ≤ ls.length ∧ i = .int .i64 k ∧ (∃ vB', BagS wr w.heap.size w.heap.size vB' ((ls.map (·.v)).take k) (.slice none 0 0) []) ∧ Below w.heap.size w wr) (fun i _ => ls.length - (intOf i).toNat)
  case atStart => exact ⟨0, Nat.zero_le _, rfl, ⟨_, by simpa using HB.out⟩, (Below.refl _ _).alloc (Nat.le_refl _) _⟩
  case round =>
    clear HB
    obtain ⟨k, hk, rfl, ⟨vB', hB⟩, hb⟩ := hrel
    by_cases hlt : k < ls.length
    · have d1 : decide ((k : Int) < (ls.length : Int)) = true := decide_eq_true (by omega)
      obtain ⟨a, x, A', c', rfl, hx, co, n1, n2, n3, hv⟩ := ho.list (Ag.of_below _ hb) (h.below hb) hlt
      clear n3
      have HT : Hid ((ls.map (·.v)).take (k + 1) = (ls.map (·.v)).take k ++ [.slice A' x.n c']) := Lib.hid (by rw [List.take_add_one, List.getElem?_map, hx.out, ← hv.out]; rfl)
      go_wp2_with fail
      refine (putBytes_any w.heap.size w.heap.size vB' _ _ _ A' x.n c' wr hB (by simp; omega)).mono ?_
      rintro _ w2 ⟨⟨r, rfl⟩, hB2, hb2⟩
      rw [← HT.out] at hB2
      have hbw := hb.trans hb2
      clear co hb hb2 hB
      go_wp2_with fail
      go_roundw
      case rel => exact ⟨k + 1, by omega, by go_num, hB2, hbw⟩
      case measure => simp [intOf]; omega
    · have d1 : decide ((k : Int) < (ls.length : Int)) = false := decide_eq_false (by omega)
      rw [List.take_of_length_le (by simp; omega)] at hB
      go_wp2_with fail
      refine (apart_any w.heap.size w.heap.size vB' _ ls [] C (fun _ => []) S (fun _ => False) wr hB (h.below hb) Fl.none hS (fun _ h => h.elim) (fun _ _ h => h) hn hl (Nat.zero_le _) (fun x h => by simp at h)).mono ?_
      rintro _ w2 ⟨rfl, ha⟩
      go_wp2_with fail
      go_ret
      exact ⟨rfl, (Ag.of_below _ hb).trans (ha.mono (fun b _ h => ⟨h, fun h => h⟩))⟩
/-- A list of entries, by its slice, its block, and where its entries' bytes lie. -/
structure EL where
  v : Value
  g : Nat
  es : List En
  ds : List (Option Addr × Nat)
def EL.fs (x : EL) : Fs := ⟨x.v, x.g, x.es.length⟩
def rowsOf (els : List EL) (k : Nat) : List Value := match els[k]? with | some x => rowV x.es x.ds | none => []
theorem rowsOf_at {els : List EL} {k : Nat} {x : EL} (h : els[k]? = some x) : rowsOf els k = rowV x.es x.ds := by unfold rowsOf; rw [h]
def datasOf (els : List EL) : List Value := els.flatMap (fun x => dataV x.es x.ds)
theorem flat_le (f : EL → List Value) (els : List EL) (k : Nat) (x : EL) (h : els[k]? = some x) : ((els.take k).flatMap f).length + (f x).length ≤ (els.flatMap f).length := by
  have h1 : els = els.take k ++ ([x] ++ els.drop (k + 1)) := by
    obtain ⟨hk, e⟩ := List.getElem?_eq_some_iff.1 h
    rw [← e]
    simp
  conv => rhs; rw [h1]
  simp only [List.flatMap_append, List.flatMap_cons, List.flatMap_nil, List.length_append, List.append_nil]
  omega
set_option maxHeartbeats 1000000 in
theorem ApartEntries_any (SB SE : Nat → Prop) (els : List EL) (lsB : List Fs) (CB : Nat → List Value) (A : Option Addr) (c : Nat) (w : World) (hB : Fl w 5 1 SB lsB CB) (hE : Fl w 53 6 SE (els.map EL.fs) (rowsOf els)) (hls : lsB.map (·.v) = datasOf els)
    (hds : ∀ x ∈ els, x.ds.length = x.es.length) (ho : Rd w (fun b => b < w.heap.size) A c (els.map (·.v))) (hcl : els.length ≤ c) (hcm : c ≤ maxLen) (hSB : ∀ b, SB b → b < w.heap.size) (hSE : ∀ b, SE b → b < w.heap.size) (hdis : ∀ b, SB b → ¬ SE b)
    (n1 : lsB.length ≤ 1000000) (n2 : ∀ x ∈ lsB, x.n ≤ 1000000) (n3 : els.length ≤ 1000000) (n4 : ∀ x ∈ els, x.es.length ≤ 1000000) :
    Calls Tryz.prog 33 #[.slice A els.length c] w fun e w' => e = .returned (.bool true) ∧ Ag (fun b => ¬ SB b ∧ ¬ SE b) w w' := by
  have hB0 := BagS.new w
  unfold bagV at hB0
  have HB := Lib.hid hB0
  have HL := Lib.hid hls
  have HD := Lib.hid hds
  clear hB0 hls hds
  go_enter Tryz.func33, Tryz.ntmps33
  go_wp2_with fail
  go_loopw [4] (fun i wr => ∃ k : Nat, k ≤ els.length ∧ i = .int .i64 k ∧ (∃ vB' vE', BagS wr w.heap.size w.heap.size vB' (datasOf (els.take k)) vE' ((els.map (·.v)).take k)) ∧ Below w.heap.size w wr) (fun i _ => els.length - (intOf i).toNat)
  case atStart => exact ⟨0, Nat.zero_le _, rfl, ⟨_, _, by simpa [datasOf] using HB.out⟩, (Below.refl _ _).alloc (Nat.le_refl _) _⟩
  case round =>
    clear HB
    obtain ⟨k, hk, rfl, ⟨vB', vE', hG⟩, hb⟩ := hrel
    by_cases hlt : k < els.length
    · have d1 : decide ((k : Int) < (els.length : Int)) = true := decide_eq_true (by omega)
      have hx := List.getElem?_eq_getElem hlt
      generalize els[k] = x at hx
      have hfx : (els.map EL.fs)[k]? = some x.fs := by rw [List.getElem?_map, hx]; rfl
      have hrow := hE.row k x.fs hfx
      rw [rowsOf_at hx] at hrow
      have hrow' : Row w 53 6 x.v x.g x.es.length (rowV x.es x.ds) := hrow
      obtain ⟨a, ea, ha, hac⟩ := ho.2 (by intro e; have := congrArg List.length e; simp at this; rw [this] at hlt; simp at hlt)
      subst ea
      have co : wr.cell? (a.add k) = some x.v := (World.cell?_of_block (by rw [add_blk]; exact hb.block _ ha)).trans (hac k _ (by rw [List.getElem?_map, hx]; rfl))
      have hcon := putEntries_any w.heap.size w.heap.size vB' vE' _ _ x.v x.g x.es x.ds wr hG (hrow'.keep (fun e => hb.block _ (hSE _ (hE.own k x.fs hfx e).1))) (fun e => hSE _ (hE.own k x.fs hfx e).1) (HD.out x (List.mem_of_getElem? hx)) (by
        have h1 := flat_le (fun x => dataV x.es x.ds) els k x hx
        have h2 := congrArg List.length HL.out
        simp only [dataV_len (HD.out x (List.mem_of_getElem? hx)), List.length_map, datasOf] at h1 h2 ⊢
        omega) (by simp; omega)
      have HT : Hid ((els.map (·.v)).take (k + 1) = (els.map (·.v)).take k ++ [x.v]) := Lib.hid (by rw [List.take_add_one, List.getElem?_map, hx]; rfl)
      have HT2 : Hid (datasOf (els.take (k + 1)) = datasOf (els.take k) ++ dataV x.es x.ds) := Lib.hid (by rw [List.take_add_one, hx]; simp [datasOf])
      obtain ⟨A', c', hv, _⟩ := hrow'.shape
      rw [hv] at co hcon HT
      clear hac hrow hrow' hfx hx hv hG
      go_wp2_with fail
      refine hcon.mono ?_
      rintro _ w2 ⟨⟨r, rfl⟩, ⟨vB2, vE2, hB2⟩, hb2⟩
      rw [← HT.out, ← HT2.out] at hB2
      have hbw := hb.trans hb2
      clear co hb hb2 hcon
      go_wp2_with fail
      go_roundw
      case rel => exact ⟨k + 1, by omega, by go_num, ⟨vB2, vE2, hB2⟩, hbw⟩
      case measure => simp [intOf]; omega
    · have d1 : decide ((k : Int) < (els.length : Int)) = false := decide_eq_false (by omega)
      rw [List.take_of_length_le (l := els) (by omega), List.take_of_length_le (l := els.map (·.v)) (by simp; omega), ← HL.out] at hG
      go_wp2_with fail
      refine (apart_any w.heap.size w.heap.size vB' vE' lsB (els.map EL.fs) CB (rowsOf els) SB SE wr (by rw [List.map_map]; exact hG) (hB.below hb) (hE.below hb) hSB hSE hdis n1 n2 (by simpa using n3) (fun x hx => by simp at hx; obtain ⟨y, hy, rfl⟩ := hx; exact n4 y hy)).mono ?_
      rintro _ w2 ⟨rfl, ha⟩
      go_wp2_with fail
      go_ret
      exact ⟨rfl, (Ag.of_below _ hb).trans ha⟩
end Go.Proofs.YtcbomcbflmgmhaaGreat
