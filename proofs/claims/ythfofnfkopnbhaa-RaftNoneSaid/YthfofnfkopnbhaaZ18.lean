/- raft: peers that aren't there, the law. raft: letters that came in. -/
import Derived.Test.YthfofnfkopnbhaaZ17
import Derived.Test.YthfofnfkopnbhaaZ16
namespace Go.Proofs.Ythfofnfkopnbhaa
open Go.RowKit Go.Maps Go.ChangeMaps
set_option linter.unusedVariables false
set_option linter.unusedSimpArgs false
set_option linter.unusedSectionVars false
set_option maxRecDepth 100000

theorem ents_single (e : En) (A2 : Option Addr) (d2 : Nat) (w : World) (hr : Rd w (fun b => b < w.heap.size) A2 d2 (u8s e.data)) (hd : e.data.length ≤ d2) (hd2 : d2 ≤ maxLen) :
    Ents (w.alloc (.cells (enV e A2 d2).toArray 44)) (fun b => b < w.heap.size + 1) (some ⟨w.heap.size, 0, none⟩) 1 [e] := by
  refine ⟨fun e => (by cases e), by simp, by decide, fun _ => ⟨_, rfl, fun i x hi => ?_⟩⟩
  match i, hi with
  | 0, hi =>
    injection hi with hi
    subst hi
    refine ⟨A2, d2, by show w.heap.size < _; omega, fun j hj => ?_, hr.keep (fun b hb => heap_alloc_old w _ hb) (fun b hb => by show b < _; have : b < w.heap.size := hb; omega), hd, hd2⟩
    have hk : ∀ j, (w.alloc (.cells (enV e A2 d2).toArray 44)).cell? ⟨w.heap.size, j, none⟩ = (enV e A2 d2)[j]? := fun j => (Bk.new w 44 (enV e A2 d2)).cell j
    rw [show ((⟨w.heap.size, 0, none⟩ : Addr).add (0 * 6)).add j = ⟨w.heap.size, j, none⟩ by cases j <;> simp [Addr.add]]
    exact hk j
set_option maxHeartbeats 4000000 in
theorem raftNone_any (n : Int) (l : Lt En) (ver : Int) (A : Option Addr) (d : Nat) (e : En) (A2 : Option Addr) (d2 : Nat) (w : World) (he : Ents w (fun b => b < w.heap.size) A d l.ents) (hr : Rd w (fun b => b < w.heap.size) A2 d2 (u8s e.data)) (hd : e.data.length ≤ d2) (hd2 : d2 ≤ maxLen) :
    Calls Try.prog 4 #[.int .i64 n, ltA l ver A d, enA e A2 d2] w fun x w' => x = .returned (.bool true) ∧ Below w.heap.size w w' := by
  have hbA : Below w.heap.size w ((w.alloc (.cells (ltV l ver A d).toArray 40)).alloc (.cells (enV e A2 d2).toArray 44)) := ((Below.refl _ _).alloc (Nat.le_refl _) _).alloc (by simp) _
  have hlB : Bk ((w.alloc (.cells (ltV l ver A d).toArray 40)).alloc (.cells (enV e A2 d2).toArray 44)) w.heap.size 40 (ltV l ver A d) := (Bk.new w _ _).alloc _
  have heB : Bk ((w.alloc (.cells (ltV l ver A d).toArray 40)).alloc (.cells (enV e A2 d2).toArray 44)) (w.heap.size + 1) 44 (enV e A2 d2) := by
    have := Bk.new (w.alloc (.cells (ltV l ver A d).toArray 40)) 44 (enV e A2 d2)
    rw [World.size_alloc] at this
    exact this
  have HBA := Lib.hid hbA
  have HLB := Lib.hid hlB
  have HEB := Lib.hid heB
  clear hbA hlB heB
  go_enter Try.func4, Try.ntmps4
  unfold ltA enA
  simp only [ltV, enV] at HBA HLB HEB ⊢
  go_wp2_with fail
  generalize ((w.alloc (.cells #[.int .u8 l.kind, .int .i64 l.src, .int .i64 l.dst, .int .i64 l.term, .int .i64 l.idx, .int .i64 l.was, .bool l.ok, .int .i64 l.com, .int .i64 ver, .slice A l.ents.length d] 40)).alloc (.cells #[.int .i64 e.term, .int .u8 e.kind, .int .i64 e.ver, .int .i64 e.srv, .bool e.good, .slice A2 e.data.length d2] 44)) = w0 at *
  refine (awake_any w0).mono ?_
  rintro _ w1 ⟨rfl, hb1⟩
  have HB1 := Lib.hid (HBA.out.trans (hb1.mono HBA.out.size))
  have HL1 := Lib.hid (HLB.out.below hb1 HLB.out.lt)
  have HE1 := Lib.hid (HEB.out.below hb1 HEB.out.lt)
  have HEN := Lib.hid (he.keep (fun b hb => HB1.out.block b hb) (fun _ h => h))
  have HRD := Lib.hid (hr.keep (fun b hb => HB1.out.block b hb) (fun _ h => h))
  clear hb1 HBA HLB HEB he hr
  obtain ⟨l0, l1, l2, l3, l4, l5, l6, l7, l8, l9⟩ := cells10 HL1.out
  have e0 : w1.cell? ⟨w.heap.size + 1, 0, none⟩ = some (.int .i64 e.term) := HE1.out.cell 0
  have e1 : w1.cell? ⟨w.heap.size + 1, 1, none⟩ = some (.int .u8 e.kind) := HE1.out.cell 1
  have e2 : w1.cell? ⟨w.heap.size + 1, 2, none⟩ = some (.int .i64 e.ver) := HE1.out.cell 2
  have e3 : w1.cell? ⟨w.heap.size + 1, 3, none⟩ = some (.int .i64 e.srv) := HE1.out.cell 3
  have e4 : w1.cell? ⟨w.heap.size + 1, 4, none⟩ = some (.bool e.good) := HE1.out.cell 4
  have e5 : w1.cell? ⟨w.heap.size + 1, 5, none⟩ = some (.slice A2 e.data.length d2) := HE1.out.cell 5
  have hLi := light_any A d _ l.ents w1 HEN.out
  go_wp2_with fail
  refine hLi.mono ?_
  rintro _ _ ⟨h1 | h1, rfl⟩
  · subst h1
    clear hLi
    go_wp2_with fail
    go_ret
    exact ⟨rfl, HB1.out⟩
  subst h1
  clear hLi
  go_wp2_with fail
  have hO := ents_single e A2 d2 w1 (HRD.out.keep (fun _ _ => rfl) (fun b hb => Nat.lt_of_lt_of_le hb HB1.out.size)) hd hd2
  have hLi := light_any _ _ _ [e] _ hO
  simp only [enV, List.length_cons, List.length_nil, Nat.reduceAdd] at hLi
  refine hLi.mono ?_
  rintro _ _ ⟨h1 | h1, rfl⟩
  · subst h1
    clear hLi
    go_wp2_with fail
    go_ret
    exact ⟨rfl, HB1.out.alloc HB1.out.size _⟩
  subst h1
  clear hLi hO
  have hbw := (Below.refl w1.heap.size w1).alloc (Nat.le_refl _) (.cells #[.int .i64 e.term, .int .u8 e.kind, .int .i64 e.ver, .int .i64 e.srv, .bool e.good, .slice A2 e.data.length d2] 44)
  have HB2 := Lib.hid (HB1.out.trans (hbw.mono HB1.out.size))
  have HL2 := Lib.hid (HL1.out.below hbw HL1.out.lt)
  have HE2 := Lib.hid (HE1.out.below hbw HE1.out.lt)
  clear hbw HB1 HL1 HE1 HEN HRD l0 l1 l2 l3 l4 l5 l6 l7 l8 l9 e0 e1 e2 e3 e4 e5
  generalize (w1.alloc (.cells #[.int .i64 e.term, .int .u8 e.kind, .int .i64 e.ver, .int .i64 e.srv, .bool e.good, .slice A2 e.data.length d2] 44)) = w2 at *
  go_wp2_with fail
  have hbp := (Below.refl w2.heap.size w2).alloc (Nat.le_refl _) (.cells #[.int .i64 0, .int .i64 0, .int .i64 0, .int .i64 0, .slice none 0 0, .int .i64 0, .int .i64 0, .pointer none, .int .i64 0, .int .i64 0, .int .i64 0, .int .i64 0, .map none, .map none] 54)
  have hnp := Bk.new w2 54 [.int .i64 0, .int .i64 0, .int .i64 0, .int .i64 0, .slice none 0 0, .int .i64 0, .int .i64 0, .pointer none, .int .i64 0, .int .i64 0, .int .i64 0, .int .i64 0, .map none, .map none]
  have hlt2 : w2.heap.size < (w2.alloc (.cells #[.int .i64 0, .int .i64 0, .int .i64 0, .int .i64 0, .slice none 0 0, .int .i64 0, .int .i64 0, .pointer none, .int .i64 0, .int .i64 0, .int .i64 0, .int .i64 0, .map none, .map none] 54)).heap.size := by simp
  obtain ⟨z, hz⟩ : ∃ z, z = w2.heap.size := ⟨_, rfl⟩
  rw [← hz] at hnp hlt2 ⊢
  have HB3 := Lib.hid (HB2.out.trans (hbp.mono HB2.out.size))
  have HL3 := Lib.hid (HL2.out.below hbp HL2.out.lt)
  have HE3 := Lib.hid (HE2.out.below hbp HE2.out.lt)
  have HN := Lib.hid hnp
  clear hbp HB2 HL2 HE2 hnp hz
  generalize (w2.alloc (.cells #[.int .i64 0, .int .i64 0, .int .i64 0, .int .i64 0, .slice none 0 0, .int .i64 0, .int .i64 0, .pointer none, .int .i64 0, .int .i64 0, .int .i64 0, .int .i64 0, .map none, .map none] 54)) = w3 at *
  refine (new_nil w3 _ _ _ _ _).mono ?_
  rintro _ w4 ⟨rfl, hb4⟩
  have HB4 := Lib.hid (HB3.out.trans (hb4.mono HB3.out.size))
  have HL4 := Lib.hid (HL3.out.below hb4 HL3.out.lt)
  have HE4 := Lib.hid (HE3.out.below hb4 HE3.out.lt)
  have HN4 := Lib.hid (HN.out.below hb4 HN.out.lt)
  clear hb4 HB3 HL3 HE3 HN hlt2
  go_wp2_with fail
  have hbr := (Below.refl w4.heap.size w4).alloc (Nat.le_refl _) (.cells #[.pointer none, .pointer (some ⟨z, 0, none⟩), .pointer none] 46)
  have hrw := Bk.new w4 46 [.pointer none, .pointer (some ⟨z, 0, none⟩), .pointer none]
  obtain ⟨g, hg⟩ : ∃ g, g = w4.heap.size := ⟨_, rfl⟩
  rw [← hg] at hrw ⊢
  have HB5 := Lib.hid (HB4.out.trans (hbr.mono HB4.out.size))
  have HL5 := Lib.hid (HL4.out.below hbr HL4.out.lt)
  have HE5 := Lib.hid (HE4.out.below hbr HE4.out.lt)
  have HN5 := Lib.hid (HN4.out.below hbr HN4.out.lt)
  have HW5 := Lib.hid hrw
  clear hbr HB4 HL4 HE4 HN4 hrw hg
  generalize (w4.alloc (.cells #[.pointer none, .pointer (some ⟨z, 0, none⟩), .pointer none] 46)) = w5 at *
  go_loopw [8] (fun i wr => ∃ k : Nat, k ≤ 3 ∧ i = .int .i64 k ∧ Below w5.heap.size w5 wr) (fun i _ => 3 - (intOf i).toNat)
  case atStart => exact ⟨0, by omega, rfl, Below.refl _ _⟩
  case round =>
    obtain ⟨k, hk, rfl, hB⟩ := hrel
    have HLr := Lib.hid (HL5.out.below hB HL5.out.lt)
    have HEr := Lib.hid (HE5.out.below hB HE5.out.lt)
    have HNr := Lib.hid (HN5.out.below hB HN5.out.lt)
    have HWr := Lib.hid (HW5.out.below hB HW5.out.lt)
    have HBr := Lib.hid hB
    clear hB
    by_cases hlt : k < 3
    · have d1 : decide ((k : Int) < 3) = true := decide_eq_true (by omega)
      have hv : ∃ a, wr.cell? ⟨g, k, none⟩ = some (.pointer a) ∧ NoP wr (.pointer a) := by
        match k, hlt with
        | 0, _ => exact ⟨none, HWr.out.cell 0, .inl rfl⟩
        | 1, _ => exact ⟨some ⟨z, 0, none⟩, HWr.out.cell 1, .inr ⟨z, rfl, HNr.out.cell 5⟩⟩
        | 2, _ => exact ⟨none, HWr.out.cell 2, .inl rfl⟩
      obtain ⟨a, hv, hno⟩ := hv
      have e0 : wr.cell? ⟨w.heap.size + 1, 0, none⟩ = some (.int .i64 e.term) := HEr.out.cell 0
      have e1 : wr.cell? ⟨w.heap.size + 1, 1, none⟩ = some (.int .u8 e.kind) := HEr.out.cell 1
      have e2 : wr.cell? ⟨w.heap.size + 1, 2, none⟩ = some (.int .i64 e.ver) := HEr.out.cell 2
      have e3 : wr.cell? ⟨w.heap.size + 1, 3, none⟩ = some (.int .i64 e.srv) := HEr.out.cell 3
      have e4 : wr.cell? ⟨w.heap.size + 1, 4, none⟩ = some (.bool e.good) := HEr.out.cell 4
      have e5 : wr.cell? ⟨w.heap.size + 1, 5, none⟩ = some (.slice A2 e.data.length d2) := HEr.out.cell 5
      have hP := propose_no e A2 d2 wr _ hno
      simp only [enA, enV] at hP
      have HB9 := Lib.hid (Below.refl wr.heap.size wr)
      go_wp2_with fail
      (with_reducible refine hP.mono ?_)
      rintro _ wz ⟨rfl, hbz⟩
      clear hP
      have hbq := hbz
      replace hno := hno.below hbz rfl
      replace HB9 := Lib.hid (HB9.out.trans (hbz.mono HB9.out.size))
      clear hbz hbq
      clear e0 e1 e2 e3 e4 e5
      unfold out0
      go_wp2_with fail
      have hbo := (Below.refl wz.heap.size wz).alloc (Nat.le_refl _) (.cells #[.int .i64 0, .int .i64 0, .int .i64 0, .int .i64 0, .slice none 0 0] 48)
      replace hno := hno.below hbo rfl
      replace HB9 := Lib.hid (HB9.out.trans (hbo.mono HB9.out.size))
      clear hbo
      generalize (wz.alloc (.cells #[.int .i64 0, .int .i64 0, .int .i64 0, .int .i64 0, .slice none 0 0] 48)) = wy at *
      have hP := same_none wy
      simp only [out0] at hP
      (with_reducible refine hP.mono ?_)
      rintro _ wz ⟨rfl, hbz⟩
      clear hP
      have hbq := hbz
      replace hno := hno.below hbz rfl
      replace HB9 := Lib.hid (HB9.out.trans (hbz.mono HB9.out.size))
      clear hbz hbq
      have hP := tick_no wz _ n hno
      simp only [out0] at hP
      go_wp2_with fail
      (with_reducible refine hP.mono ?_)
      rintro _ wz ⟨rfl, hbz⟩
      clear hP
      have hbq := hbz
      replace hno := hno.below hbz rfl
      replace HB9 := Lib.hid (HB9.out.trans (hbz.mono HB9.out.size))
      clear hbz hbq
      have hP := same_none wz
      simp only [out0] at hP
      go_wp2_with fail
      (with_reducible refine hP.mono ?_)
      rintro _ wz ⟨rfl, hbz⟩
      clear hP
      have hbq := hbz
      replace hno := hno.below hbz rfl
      replace HB9 := Lib.hid (HB9.out.trans (hbz.mono HB9.out.size))
      clear hbz hbq
      obtain ⟨l0, l1, l2, l3, l4, l5, l6, l7, l8, l9⟩ := cells10 (HLr.out.below HB9.out HLr.out.lt)
      have hP := letter_no_any wz _ l ver A d hno
      simp only [out0, ltA, ltV] at hP
      go_wp2_with fail
      (with_reducible refine hP.mono ?_)
      rintro _ wz ⟨rfl, hbz⟩
      clear hP
      have hbq := hbz
      replace hno := hno.below hbz rfl
      replace HB9 := Lib.hid (HB9.out.trans (hbz.mono HB9.out.size))
      clear hbz hbq
      clear l0 l1 l2 l3 l4 l5 l6 l7 l8 l9
      have hP := same_none wz
      simp only [out0] at hP
      go_wp2_with fail
      (with_reducible refine hP.mono ?_)
      rintro _ wz ⟨rfl, hbz⟩
      clear hP
      have hbq := hbz
      replace hno := hno.below hbz rfl
      replace HB9 := Lib.hid (HB9.out.trans (hbz.mono HB9.out.size))
      clear hbz hbq
      have hP := leads_no wz _ hno
      go_wp2_with fail
      (with_reducible refine hP.mono ?_)
      rintro _ _ ⟨rfl, rfl⟩
      clear hP
      have hP := leader_no wz _ hno
      go_wp2_with fail
      (with_reducible refine hP.mono ?_)
      rintro _ _ ⟨rfl, rfl⟩
      clear hP
      have hP := pterm_no wz _ hno
      go_wp2_with fail
      (with_reducible refine hP.mono ?_)
      rintro _ _ ⟨rfl, rfl⟩
      clear hP
      have hP := commit_no wz _ hno
      go_wp2_with fail
      (with_reducible refine hP.mono ?_)
      rintro _ _ ⟨rfl, rfl⟩
      clear hP
      have hP := log_no wz _ hno
      go_wp2_with fail
      (with_reducible refine hP.mono ?_)
      rintro _ _ ⟨rfl, rfl⟩
      clear hP
      go_wp2_with fail
      go_roundw
      case rel => exact ⟨k + 1, by omega, by go_num, HBr.out.trans (HB9.out.mono HBr.out.size)⟩
      case measure => simp [intOf]; omega
    · have d1 : decide ((k : Int) < 3) = false := decide_eq_false (by omega)
      go_wp2_with fail
      go_ret
      exact ⟨rfl, HB5.out.trans (HBr.out.mono HB5.out.size)⟩
end Go.Proofs.Ythfofnfkopnbhaa
namespace Go.Proofs.Ythfofnfkopnbhaa
open Go.RowKit Go.Maps Go.ChangeMaps
set_option linter.unusedVariables false
set_option maxRecDepth 100000
section
open Go.ChangeShapes Go.WideShapes Go.Deep
variable {H : Type} {enc : TypeId × Value → H}
theorem cellsLK : Try.prog.cellsOf 38 = 1 := by kernel_rfl
theorem cellsES : Try.prog.cellsOf 34 = 1 := by kernel_rfl
/-- A letter that came in, by its cells. -/
theorem came_letter {W : World} {fuel : Nat} {cs : List Value} {x : DataW H × List MemPlace} (h : DataW.trod enc Try.prog W 0 (fun _ => true) true fuel 40 cs = some x) :
    ∃ l ver A c, cs = ltV l ver A c ∧ Ents W (fun b => b < W.heap.size) A c l.ents := by
  obtain ⟨xs, n, rfl, hx, hcl, hxl, hf⟩ := DataW.trod_struct Try.underlying40 h
  have hc : cs.length = 10 := hcl.trans (by kernel_rfl)
  match cs, hc with
  | [c0, c1, c2, c3, c4, c5, c6, c7, c8, c9], _ =>
    match xs, hxl with
    | [y0, y1, y2, y3, y4, y5, y6, y7, y8, y9], _ =>
      have h0 := hf 0 _ rfl
      have h1 := hf 1 _ rfl
      have h2 := hf 2 _ rfl
      have h3 := hf 3 _ rfl
      have h4 := hf 4 _ rfl
      have h5 := hf 5 _ rfl
      have h6 := hf 6 _ rfl
      have h7 := hf 7 _ rfl
      have h8 := hf 8 _ rfl
      have h9 := hf 9 _ rfl
      simp [cells3, cellsLK, cells4, cellsES] at h0 h1 h2 h3 h4 h5 h6 h7 h8 h9
      obtain ⟨n0, e0, _⟩ := DataW.trod_int Try.underlying38 h0
      obtain ⟨n1, e1, _⟩ := DataW.trod_int Try.underlying3 h1
      obtain ⟨n2, e2, _⟩ := DataW.trod_int Try.underlying3 h2
      obtain ⟨n3, e3, _⟩ := DataW.trod_int Try.underlying3 h3
      obtain ⟨n4, e4, _⟩ := DataW.trod_int Try.underlying3 h4
      obtain ⟨n5, e5, _⟩ := DataW.trod_int Try.underlying3 h5
      obtain ⟨n6, e6, _⟩ := DataW.trod_bool Try.underlying4 h6
      obtain ⟨n7, e7, _⟩ := DataW.trod_int Try.underlying3 h7
      obtain ⟨n8, e8, _⟩ := DataW.trod_int Try.underlying3 h8
      obtain ⟨A, c, es, e9, hE⟩ := came_entries h9
      injection e0 with e0
      injection e1 with e1
      injection e2 with e2
      injection e3 with e3
      injection e4 with e4
      injection e5 with e5
      injection e6 with e6
      injection e7 with e7
      injection e8 with e8
      exact ⟨⟨n0, n1, n2, n3, n4, n5, n6, n7, es⟩, n8, A, c, by rw [e0, e1, e2, e3, e4, e5, e6, e7, e8, e9]; rfl, hE⟩
end
end Go.Proofs.Ythfofnfkopnbhaa
