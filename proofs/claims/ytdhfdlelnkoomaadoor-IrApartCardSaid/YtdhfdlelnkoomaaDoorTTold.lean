/- ir's writer of lines: told, line. -/
import Derived.Test.YtdhfdlelnkoomaaDoorTPut
namespace Go.Proofs.YtdhfdlelnkoomaaDoor
open Go.RowKit
set_option linter.unusedVariables false
set_option maxRecDepth 100000

theorem Bd.lt {T : TypeId} {B b : Nat} {l : List UInt8} {w : World} (h : Bd T B b l w) : b < w.heap.size := h.elim (fun x => x.lt) (fun x => x.lt)
theorem Bd.lo {T : TypeId} {B b : Nat} {l : List UInt8} {w : World} (h : Bd T B b l w) : B ≤ b := h.elim (fun x => x.1) (fun x => x.1)
theorem atF_below {T e : TypeId} {B b : Nat} {p : Value} {bs : List Value} {w w' : World} (h : Lib.BuilderAtF T e B b p bs w) (hb : Below w.heap.size w w') : Lib.BuilderAtF T e B b p bs w' := by
  have hlt := h.lt
  obtain ⟨hB, v, hv, hown, hne⟩ := h
  refine ⟨hB, v, (hb.block b hlt).trans hv, ⟨hown.1, ?_⟩, hne⟩
  rcases hown.2 with h0 | ⟨g, cap, cur, fz, e1, e2, hg, r⟩
  · exact .inl h0
  · exact .inr ⟨g, cap, cur, fz, e1, e2, (hb.block g (Array.getElem?_eq_some_iff.1 hg).1).trans hg, r⟩
theorem Bd.below {T : TypeId} {B b : Nat} {l : List UInt8} {w w' : World} (h : Bd T B b l w) (hb : Below w.heap.size w w') : Bd T B b l w' := h.elim (fun x => .inl (atF_below x hb)) (fun x => .inr (atF_below x hb))
/-- A writer's call under way: the instruction in block N, the builder in b with l written, all else of W0 as it was. -/
structure Kq (B N b : Nat) (l : List UInt8) (f : Ins) (W0 w : World) : Prop where
  bk : Bk w N 35 (insV f)
  tb : Tb B w
  bd : Bd 54 B b l w
  lo : B ≤ N
  ne : N ≠ b
  oth : Oth b W0 w
  below : Below B W0 w
  size : W0.heap.size ≤ w.heap.size
theorem Kq.hB {B N b : Nat} {l : List UInt8} {f : Ins} {W0 w : World} (h : Kq B N b l f W0 w) : B ≤ w.heap.size := by have := h.bk.lt; have := h.lo; omega
theorem Kq.step {B N b : Nat} {l : List UInt8} {f : Ins} {W0 w w' : World} (h : Kq B N b l f W0 w) (hb : Below w.heap.size w w') : Kq B N b l f W0 w' :=
  ⟨h.bk.below hb h.bk.lt, h.tb.keep' hb h.hB, h.bd.below hb, h.lo, h.ne, h.oth.trans (Oth.below hb), h.below.trans (hb.mono h.hB), Nat.le_trans h.size hb.size⟩
theorem Kq.alloc {B N b : Nat} {l : List UInt8} {f : Ins} {W0 w : World} (h : Kq B N b l f W0 w) (o : Obj) : Kq B N b l f W0 (w.alloc o) := h.step ((Below.refl _ _).alloc (Nat.le_refl _) o)
theorem Kq.drew {B N b : Nat} {l : List UInt8} {f : Ins} {W0 w : World} (h : Kq B N b l f W0 w) : Kq B N b l f W0 w.drew := ⟨h.bk, h.tb.drew, h.bd.drew, h.lo, h.ne, h.oth.drew, h.below.drew, h.size⟩
theorem Kq.write {B N b : Nat} {l l' : List UInt8} {f : Ins} {W0 w w' : World} (h : Kq B N b l f W0 w) (hd : Bd 54 B b l' w' ∧ Below B w w' ∧ Oth b w w') : Kq B N b l' f W0 w' :=
  ⟨hd.2.2.bk h.bk h.ne (by decide), h.tb.keep hd.2.1, hd.1, h.lo, h.ne, h.oth.trans hd.2.2, h.below.trans hd.2.1, Nat.le_trans h.size hd.2.1.size⟩
theorem Kq.cs {B N b : Nat} {l : List UInt8} {f : Ins} {W0 w : World} (h : Kq B N b l f W0 w) :
    w.cell? ⟨N, 0, none⟩ = some (.int .u8 f.op) ∧ w.cell? ⟨N, 1, none⟩ = some (.int .u8 f.what) ∧ w.cell? ⟨N, 2, none⟩ = some (.bool f.nar) ∧ w.cell? ⟨N, 3, none⟩ = some (.int .i64 f.d) ∧ w.cell? ⟨N, 4, none⟩ = some (.int .i64 f.a) ∧
     w.cell? ⟨N, 5, none⟩ = some (.int .i64 f.b) ∧ w.cell? ⟨N, 6, none⟩ = some (.int .u64 f.n) ∧ w.cell? ⟨N, 7, none⟩ = some (.int .i64 f.size) ∧ w.cell? ⟨N, 8, none⟩ = some (.int .i64 f.to) :=
  ⟨h.bk.cell 0, h.bk.cell 1, h.bk.cell 2, h.bk.cell 3, h.bk.cell 4, h.bk.cell 5, h.bk.cell 6, h.bk.cell 7, h.bk.cell 8⟩
theorem Kq.box {B b : Nat} {l : List UInt8} (f : Ins) {w : World} (ht : Tb B w) (hd : Bd 54 B b l w) : ∃ w0 : World, w.alloc (.cells (insV f).toArray 35) = w0 ∧ Hid (Kq B w.heap.size b l f w w0) := by
  have hB : B ≤ w.heap.size := Nat.le_of_lt (Nat.lt_of_le_of_lt hd.lo hd.lt)
  exact ⟨_, rfl, Lib.hid ⟨Bk.new w _ _, ht.alloc hB _, hd.alloc _, hB, Nat.ne_of_gt hd.lt, Oth.below ((Below.refl _ _).alloc (Nat.le_refl _) _), (Below.refl _ _).alloc hB _, by simp⟩⟩
/-- The texts of a call lie in the newest block. -/
theorem Kq.texts {B N b : Nat} {l : List UInt8} {f : Ins} {W0 w : World} (h : Kq B N b l f W0 w) (ps : List (List UInt8)) : Bk (w.alloc (.cells (strV ps).toArray 9)) w.heap.size 9 (strV ps) ∧ w.heap.size ≠ b :=
  ⟨Bk.new w _ _, Nat.ne_of_gt h.bd.lt⟩
def eqT : List UInt8 := [32, 61, 32]
set_option maxHeartbeats 1000000 in
theorem told_any (B b g : Nat) (l : List UInt8) (ps : List (List UInt8)) (o : Int) (op : Nat) (nar : Bool) (d a bb u sz t : Nat) (hf : Ln op d a bb u sz t) (w : World) (ht : Tb B w) (h : Bd 54 B b l w) (hg : Bk w g 9 (strV ps)) (hgb : g ≠ b) (hlen : l.length + ps.flatten.length ≤ 100000000000) (hn : ps.length ≤ 100) :
    Calls Tryd.prog 43 #[.pointer (some ⟨b, 0, none⟩), insA (mkI o op nar d a bb u sz t), .slice (some ⟨g, 0, none⟩) ps.length ps.length] w fun e w' => e = .returned (.tuple #[]) ∧ (Bd 54 B b (l ++ ([rT d, eqT] ++ ps).flatten) w' ∧ Below B w w' ∧ Oth b w w') := by
  have HT := Lib.hid ht
  have HG := Lib.hid hg
  have HGB := Lib.hid hgb
  have HL := Lib.hid hlen
  obtain ⟨w0, e0, HK⟩ := Kq.box (mkI o op nar d a bb u sz t) ht h
  have hcs := HK.out.cs
  simp only [mkI] at hcs
  obtain ⟨c0, c1, c2, c3, c4, c5, c6, c7, c8⟩ := hcs
  have HLR := Lib.hid (rT_l d hf.ld)
  have HFL := Lib.hid (show (l ++ [rT d, eqT].flatten) ++ ps.flatten = l ++ ([rT d, eqT] ++ ps).flatten by simp only [List.flatten_append, List.append_assoc])
  have HLN := Lib.hid (show (l ++ [rT d, eqT].flatten).length + ps.flatten.length ≤ 1000000000000 ∧ l.length + [rT d, eqT].flatten.length ≤ 1000000000000 by
    have := HLR.out
    have := HL.out
    simp only [List.length_append, List.flatten_cons, List.flatten_nil, List.append_nil, eqT, List.length_cons, List.length_nil]
    omega)
  clear ht h hg hgb hlen
  simp only [mkI, insV] at e0
  go_enter Tryd.func43, Tryd.ntmps43
  unfold insA insV mkI
  go_wp2_with fail
  refine (rN_any d hf.ld _ HK.out.tb).mono ?_
  rintro _ w1 ⟨rfl, hb'⟩
  have HK1 := Lib.hid (HK.out.step hb')
  clear hb' e0 c0 c1 c2 c3 c4 c5 c6 c7 c8
  go_wp2_with fail
  refine (put_any B b w1.heap.size l [rT d, eqT] _ (HK1.out.alloc _).bd (HK1.out.texts [rT d, eqT]).1 (HK1.out.texts []).2 HLN.out.2 (HK1.out.alloc _).hB (by simp)).mono ?_
  rintro _ w2 ⟨rfl, hw2⟩
  have HK2 := Lib.hid ((HK1.out.alloc _).write hw2)
  clear hw2
  go_wp2_with fail
  refine (put_any B b g _ ps _ HK2.out.bd (HK2.out.oth.bk HG.out HGB.out (by decide)) HGB.out HLN.out.1 HK2.out.hB hn).mono ?_
  rintro _ w3 ⟨rfl, hw3⟩
  have HK3 := Lib.hid (HK2.out.write hw3)
  clear hw3
  go_wp2_with fail
  go_end0
  exact ⟨rfl, by have h := HK3.out.bd; rw [HFL.out] at h; exact h, HK3.out.below, HK3.out.oth⟩
end Go.Proofs.YtdhfdlelnkoomaaDoor
