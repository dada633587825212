/- A code's text: what it is; ir.Text. -/
import Derived.Test.YtdhfdlelnkoomaaDoorTRLine
import Derived.Test.YtdhfdlelnkoomaaDoorRRight
namespace Go.Proofs.YtdhfdlelnkoomaaDoor
open Go.RowKit
set_option linter.unusedVariables false
set_option maxRecDepth 100000

/-- A right instruction, by natural numbers. -/
structure LnI (f : Ins) (op d a b u sz t : Nat) : Prop where
  eq : f = mkI f.op op f.nar d a b u sz t
  ln : Ln op d a b u sz t
  kind : f.op = 1 ∨ f.op = 2 ∨ f.op = 3 ∨ f.op = 4 ∨ f.op = 5 ∨ f.op = 6 ∨ f.op = 7 ∨ f.op = 8 ∨ f.op = 9
  w3 : f.op = 3 → 1 ≤ op ∧ op ≤ 13
  w8 : f.op = 8 → 17 ≤ op ∧ op ≤ 27
theorem regP_nat {x : Int} (h : regP x = true) : ∃ k : Nat, x = k ∧ k ≤ 15 := by
  simp [regP] at h; exact ⟨x.toNat, by omega, by omega⟩
theorem sizedP_nat {x : Int} (h : sizedP x = true) : ∃ k : Nat, x = k ∧ k ≤ 8 := by
  simp [sizedP] at h; exact ⟨x.toNat, by omega, by omega⟩
theorem one_ln (f : Ins) (i n : Nat) (h : oneP f i n = true) (ok : InsOk f) (hn : n ≤ 16384) : ∃ op d a b u sz t, LnI f op d a b u sz t := by
  obtain ⟨w0, n0, n1⟩ := ok
  obtain ⟨o, wh, nar, d, a, b, u, sz, t⟩ := f
  simp only at w0 n0 n1
  obtain ⟨u, rfl⟩ : ∃ k : Nat, u = k := ⟨u.toNat, by omega⟩
  unfold oneP at h
  simp only at h
  have hu : u < 18446744073709551616 := by omega
  split at h
  · next e => subst e; simp only [Bool.and_eq_true, decide_eq_true_eq, Ins.mk.injEq] at h; obtain ⟨⟨-, rfl, rfl, -, rfl, rfl, -, rfl, rfl⟩, hd⟩ := h; obtain ⟨d, rfl, hd'⟩ := regP_nat hd; exact ⟨0, d, 0, 0, u, 0, 0, rfl, ⟨hd', by decide, by decide, hu, by decide, by decide, by decide⟩, by simp, by simp, by simp⟩
  split at h
  · next e => subst e; simp only [Bool.and_eq_true, decide_eq_true_eq, Ins.mk.injEq] at h; obtain ⟨⟨-, rfl, rfl, -, -, rfl, hu0, rfl, rfl⟩, hd, ha⟩ := h; obtain ⟨d, rfl, hd'⟩ := regP_nat hd; obtain ⟨a, rfl, ha'⟩ := regP_nat ha; exact ⟨0, d, a, 0, u, 0, 0, rfl, ⟨hd', ha', by decide, hu, by decide, by decide, by decide⟩, by simp, by simp, by simp⟩
  split at h
  · next e => subst e; simp only [Bool.and_eq_true, decide_eq_true_eq, Ins.mk.injEq] at h; obtain ⟨⟨-, -, -, -, -, -, hu0, rfl, rfl⟩, hw, ⟨hd, ha, hb⟩, hx⟩ := h; obtain ⟨d, rfl, hd'⟩ := regP_nat hd; obtain ⟨a, rfl, ha'⟩ := regP_nat ha; obtain ⟨b, rfl, hb'⟩ := regP_nat hb; obtain ⟨wh, rfl⟩ : ∃ k : Nat, wh = k := ⟨wh.toNat, by omega⟩; exact ⟨wh, d, a, b, u, 0, 0, rfl, ⟨hd', ha', hb', hu, by decide, by decide, by omega⟩, by simp, fun _ => by omega, by simp⟩
  split at h
  · next e => 
      simp only [Bool.and_eq_true, decide_eq_true_eq, Ins.mk.injEq] at h; obtain ⟨⟨-, rfl, rfl, -, -, rfl, -, -, rfl⟩, ⟨hd, ha⟩, hs⟩ := h; obtain ⟨d, rfl, hd'⟩ := regP_nat hd; obtain ⟨a, rfl, ha'⟩ := regP_nat ha; obtain ⟨sz, rfl, hs'⟩ := sizedP_nat hs; exact ⟨0, d, a, 0, u, sz, 0, rfl, ⟨hd', ha', by decide, hu, hs', by decide, by decide⟩, by simp only; omega, fun e' => by simp only at e'; omega, fun e' => by simp only at e'; omega⟩
  split at h
  · next e => subst e; simp only [Bool.and_eq_true, decide_eq_true_eq, Ins.mk.injEq] at h; obtain ⟨⟨-, rfl, rfl, rfl, -, -, -, -, rfl⟩, ⟨ha, hb⟩, hs⟩ := h; obtain ⟨b, rfl, hb'⟩ := regP_nat hb; obtain ⟨a, rfl, ha'⟩ := regP_nat ha; obtain ⟨sz, rfl, hs'⟩ := sizedP_nat hs; exact ⟨0, 0, a, b, u, sz, 0, rfl, ⟨by decide, ha', hb', hu, hs', by decide, by decide⟩, by simp, by simp, by simp⟩
  split at h
  · next e => subst e; simp only [Bool.and_eq_true, decide_eq_true_eq, Ins.mk.injEq] at h; obtain ⟨⟨-, rfl, rfl, rfl, rfl, rfl, hu0, rfl, -⟩, ht⟩ := h; obtain ⟨t, rfl⟩ : ∃ k : Nat, t = k := ⟨t.toNat, by omega⟩; exact ⟨0, 0, 0, 0, u, 0, t, rfl, ⟨by decide, by decide, by decide, hu, by decide, by omega, by decide⟩, by simp, by simp, by simp⟩
  split at h
  · next e => subst e; simp only [Bool.and_eq_true, decide_eq_true_eq, Ins.mk.injEq] at h; obtain ⟨⟨-, -, -, rfl, -, -, hu0, rfl, -⟩, hw, ⟨ha, hb⟩, ht⟩ := h; obtain ⟨a, rfl, ha'⟩ := regP_nat ha; obtain ⟨b, rfl, hb'⟩ := regP_nat hb; obtain ⟨wh, rfl⟩ : ∃ k : Nat, wh = k := ⟨wh.toNat, by omega⟩; obtain ⟨t, rfl⟩ : ∃ k : Nat, t = k := ⟨t.toNat, by omega⟩; exact ⟨wh, 0, a, b, u, 0, t, rfl, ⟨by decide, ha', hb', hu, by decide, by omega, by omega⟩, by simp, by simp, fun _ => by omega⟩
  split at h
  · next e => subst e; simp only [Bool.and_eq_true, decide_eq_true_eq, Ins.mk.injEq] at h; obtain ⟨⟨-, rfl, rfl, rfl, -, rfl, hu0, rfl, rfl⟩, ha⟩ := h; obtain ⟨a, rfl, ha'⟩ := regP_nat ha; exact ⟨0, 0, a, 0, u, 0, 0, rfl, ⟨by decide, ha', by decide, hu, by decide, by decide, by decide⟩, by simp, by simp, by simp⟩
  · cases h
/-- An instruction's line. -/
def insT (f : Ins) : List UInt8 := lineT f.op f.what.toNat f.nar f.d.toNat f.a.toNat f.b.toNat f.n.toNat f.size.toNat f.to.toNat
theorem LnI.insT {f : Ins} {op d a b u sz t : Nat} (h : LnI f op d a b u sz t) : insT f = lineT f.op op f.nar d a b u sz t := by
  have e := h.eq
  generalize f.op = o at e ⊢
  generalize f.nar = nar at e ⊢
  subst e
  simp [Proofs.YtdhfdlelnkoomaaDoor.insT, mkI]
theorem insT_len {f : Ins} {op d a b u sz t : Nat} (h : LnI f op d a b u sz t) : (insT f).length ≤ 200 := by
  rw [h.insT]; exact lineT_len _ _ _ _ _ _ _ _ _ h.ln
theorem line_any {f : Ins} {op d a b u sz t : Nat} (hf : LnI f op d a b u sz t) (B bb : Nat) (l : List UInt8) (w : World) (ht : Tb B w) (h : Bd 54 B bb l w) (hlen : l.length ≤ 10000000000) :
    Calls Tryd.prog 24 #[.pointer (some ⟨bb, 0, none⟩), insA f] w fun e w' => e = .returned (.tuple #[]) ∧ (Bd 54 B bb (l ++ insT f) w' ∧ Below B w w' ∧ Oth bb w w') := by
  rw [hf.insT]
  have e := hf.eq
  have hk := hf.kind
  have h3 := hf.w3
  have h8 := hf.w8
  have hl := hf.ln
  clear hf
  generalize f.op = o at *
  generalize f.nar = nar at *
  subst e
  rcases hk with rfl | rfl | rfl | rfl | rfl | rfl | rfl | rfl | rfl
  · exact line1 B bb l op nar d a b u sz t hl w ht h hlen
  · exact line2 B bb l op nar d a b u sz t hl w ht h hlen
  · by_cases e13 : op = 13
    · subst e13; exact line3n B bb l nar d a b u sz t hl w ht h hlen
    · exact line3 B bb l op nar d a b u sz t hl e13 w ht h hlen
  · exact line4 B bb l op nar d a b u sz t hl w ht h hlen
  · exact line5 B bb l op nar d a b u sz t hl w ht h hlen
  · exact line6 B bb l op nar d a b u sz t hl w ht h hlen
  · exact line7 B bb l op nar d a b u sz t hl w ht h hlen
  · exact line8 B bb l op nar d a b u sz t hl w ht h hlen
  · exact line9 B bb l op nar d a b u sz t hl w ht h hlen
theorem rline_any {f : Ins} {op d a b u sz t : Nat} (hf : LnI f op d a b u sz t) {B : Nat} (w : World) (ht : Tb B w) (hB : B ≤ w.heap.size) :
    Calls Tryd.prog 26 #[insA f] w fun e w' => e = .returned (.string ⟨(insT f).toArray⟩) ∧ Below w.heap.size w w' := by
  rw [hf.insT]
  have e := hf.eq
  have hk := hf.kind
  have h3 := hf.w3
  have h8 := hf.w8
  have hl := hf.ln
  clear hf
  generalize f.op = o at *
  generalize f.nar = nar at *
  subst e
  rcases hk with rfl | rfl | rfl | rfl | rfl | rfl | rfl | rfl | rfl
  · exact rline1 op nar d a b u sz t hl w ht hB
  · exact rline2 op nar d a b u sz t hl w ht hB
  · by_cases e13 : op = 13
    · subst e13; exact rline3n nar d a b u sz t hl w ht hB
    · exact rline3 op nar d a b u sz t hl (.inl (h3 rfl)) e13 w ht hB
  · exact rline4 op nar d a b u sz t hl w ht hB
  · exact rline5 op nar d a b u sz t hl w ht hB
  · exact rline6 op nar d a b u sz t hl w ht hB
  · exact rline7 op nar d a b u sz t hl w ht hB
  · exact rline8 op nar d a b u sz t hl (.inr (h8 rfl)) w ht hB
  · exact rline9 op nar d a b u sz t hl w ht hB
/-- The first k lines of a code's text. -/
def textUp (xs : List Ins) (k : Nat) : List UInt8 := ((List.range k).map fun (i : Nat) => ((Lib.itoa (i : Int) ++ [58, 32]) ++ insT (xs.getD i default)) ++ [10]).flatten
/-- A code's text. -/
def textP (xs : List Ins) : List UInt8 := if rightP xs then textUp xs xs.length else []
theorem textUp_succ (xs : List Ins) (k : Nat) : textUp xs (k + 1) = textUp xs k ++ (((Lib.itoa k ++ [58, 32]) ++ insT (xs.getD k default)) ++ [10]) := by
  simp [textUp, List.range_succ]
theorem right_one {xs : List Ins} (h : rightP xs = true) {k : Nat} (hk : k < xs.length) : oneP (xs.getD k default) k xs.length = true := by
  unfold rightP at h
  simp only [Bool.and_eq_true, List.all_eq_true] at h
  exact h.2.2 k (List.mem_range.2 hk)
theorem right_len {xs : List Ins} (h : rightP xs = true) : 1 ≤ xs.length ∧ xs.length ≤ 16384 := by
  unfold rightP at h
  simp only [Bool.and_eq_true, decide_eq_true_eq] at h
  exact h.1
theorem right_ln {xs : List Ins} (h : rightP xs = true) (hok : ∀ f ∈ xs, InsOk f) {k : Nat} {f : Ins} (hk : xs[k]? = some f) : ∃ op d a b u sz t, LnI f op d a b u sz t := by
  have hlt := (List.getElem?_eq_some_iff.1 hk).1
  have h1 := right_one h hlt
  rw [List.getD_eq_getElem?_getD, hk] at h1
  exact one_ln f k xs.length h1 (hok f (List.mem_of_getElem? hk)) (right_len h).2
theorem textUp_len {xs : List Ins} (h : rightP xs = true) (hok : ∀ f ∈ xs, InsOk f) : ∀ k, k ≤ xs.length → (textUp xs k).length ≤ 300 * k
  | 0, _ => by simp [textUp]
  | k + 1, hk => by
    have ih := textUp_len h hok k (by omega)
    obtain ⟨f, hf⟩ : ∃ f, xs[k]? = some f := ⟨_, List.getElem?_eq_getElem (by omega)⟩
    obtain ⟨op, d, a, b, u, sz, t, hl⟩ := right_ln h hok hf
    have h1 := insT_len hl
    have h2 := itoa_l k (by have := (right_len h).2; omega)
    rw [textUp_succ, List.getD_eq_getElem?_getD, hf]
    simp only [List.length_append, List.length_cons, List.length_nil, Option.getD_some]
    omega
end Go.Proofs.YtdhfdlelnkoomaaDoor
