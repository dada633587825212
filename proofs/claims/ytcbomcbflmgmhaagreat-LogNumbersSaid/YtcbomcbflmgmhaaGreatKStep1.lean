/- Two logs beside each other: no new function. -/
import Derived.Test.YtcbomcbflmgmhaaGreatKRef4
import Derived.Test.YtcbomcbflmgmhaaGreatKApartB
namespace Go.Proofs.YtcbomcbflmgmhaaGreat
open Go.RowKit
set_option linter.unusedVariables false
set_option maxRecDepth 100000

/-- The program's log at p has La, the reference's at q has Lb; they lie apart, in blocks of S and of R, and in such as were made since w1. -/
def TwoS (S R : Nat → Prop) (w1 : World) (p q : Nat) (La Lb : List En) (W : World) : Prop :=
  ∃ S' R' : Nat → Prop, LogS S' W p La ∧ RefS R' W q Lb ∧ (∀ b, S' b → ¬ R' b) ∧ (∀ b, S' b → S b ∨ Fresh w1 W b) ∧ (∀ b, R' b → R b ∨ Fresh w1 W b) ∧ Ag (fun k => ¬ S k ∧ ¬ R k) w1 W
section
variable {S R : Nat → Prop} {w1 W W' : World} {p q : Nat} {La Lb L' : List En}
theorem TwoS.start (h1 : LogS S W p La) (h2 : RefS R W q Lb) (hd : ∀ b, S b → ¬ R b) : TwoS S R W p q La Lb W := ⟨S, R, h1, h2, hd, fun _ h => .inl h, fun _ h => .inl h, Ag.refl _ _⟩
theorem fresh_mono {w1 W W' : World} {b : Nat} (h : Fresh w1 W b) (hs : W.heap.size ≤ W'.heap.size) : Fresh w1 W' b := ⟨h.1, Nat.lt_of_lt_of_le h.2 hs⟩
theorem TwoS.below (h : TwoS S R w1 p q La Lb W) (hb : Below W.heap.size W W') : TwoS S R w1 p q La Lb W' := by
  obtain ⟨S', R', h1, h2, h3, h4, h5, h6⟩ := h
  exact ⟨S', R', h1.below hb, h2.below hb, h3, fun b h => (h4 b h).imp id (fun h => fresh_mono h hb.size), fun b h => (h5 b h).imp id (fun h => fresh_mono h hb.size), h6.trans (Ag.of_below _ hb)⟩
theorem TwoS.lt {S : Nat → Prop} (hS : ∀ b, S b → b < w1.heap.size) {S' : Nat → Prop} (h4 : ∀ b, S' b → S b ∨ Fresh w1 W b) (hs : w1.heap.size ≤ W.heap.size) : ∀ b, S' b → b < W.heap.size := fun b hb => (h4 b hb).elim (fun h => Nat.lt_of_lt_of_le (hS b h) hs) (fun h => h.2)
/-- What is done to the program's log alone. -/
theorem TwoS.log {S' R' : Nat → Prop} (hS : ∀ b, S b → b < w1.heap.size) (hR : ∀ b, R b → b < w1.heap.size) (h2 : RefS R' W q Lb) (h3 : ∀ b, S' b → ¬ R' b) (h4 : ∀ b, S' b → S b ∨ Fresh w1 W b) (h5 : ∀ b, R' b → R b ∨ Fresh w1 W b) (h6 : Ag (fun k => ¬ S k ∧ ¬ R k) w1 W)
    (k1 : LogS (fun b => S' b ∨ Fresh W W' b) W' p L') (k2 : Ag (fun k => ¬ S' k) W W') : TwoS S R w1 p q L' Lb W' := by
  have hs := h6.size
  have hs2 := k2.size
  refine ⟨_, R', k1, h2.keep (k2.mono (fun b _ hb hS' => h3 b hS' hb)), ?_, ?_, fun b hb => (h5 b hb).imp id (fun h => fresh_mono h hs2), ⟨k2.os.trans h6.os, k2.tape.trans h6.tape, k2.output.trans h6.output, by omega, fun b hb hK => (k2.block b (by omega) (fun hx => ?_)).trans (h6.block b hb hK)⟩⟩
  · rintro b (hb | hb)
    · exact h3 b hb
    · intro hr
      have h7 := hb.1
      rcases h5 b hr with h | h
      · have := hR b h; omega
      · have := h.2; omega
  · rintro b (hb | hb)
    · exact (h4 b hb).imp id (fun h => fresh_mono h hs2)
    · exact .inr ⟨by have := hb.1; omega, hb.2⟩
  · rcases h4 b hx with h | h
    · exact hK.1 h
    · have := h.1; omega
/-- What is done to the reference's log alone. -/
theorem TwoS.ref {S' R' : Nat → Prop} (hS : ∀ b, S b → b < w1.heap.size) (hR : ∀ b, R b → b < w1.heap.size) (h1 : LogS S' W p La) (h3 : ∀ b, S' b → ¬ R' b) (h4 : ∀ b, S' b → S b ∨ Fresh w1 W b) (h5 : ∀ b, R' b → R b ∨ Fresh w1 W b) (h6 : Ag (fun k => ¬ S k ∧ ¬ R k) w1 W)
    (k1 : RefS (fun b => R' b ∨ Fresh W W' b) W' q L') (k2 : Ag (fun k => ¬ R' k) W W') : TwoS S R w1 p q La L' W' := by
  have hs := h6.size
  have hs2 := k2.size
  refine ⟨S', _, h1.keep (k2.mono (fun b _ hb hR' => h3 b hb hR')), k1, ?_, fun b hb => (h4 b hb).imp id (fun h => fresh_mono h hs2), ?_, ⟨k2.os.trans h6.os, k2.tape.trans h6.tape, k2.output.trans h6.output, by omega, fun b hb hK => (k2.block b (by omega) (fun hx => ?_)).trans (h6.block b hb hK)⟩⟩
  · rintro b hb (hr | hr)
    · exact h3 b hb hr
    · have h7 := hr.1
      rcases h4 b hb with h | h
      · have := hS b h; omega
      · have := h.2; omega
  · rintro b (hb | hb)
    · exact (h5 b hb).imp id (fun h => fresh_mono h hs2)
    · exact .inr ⟨by have := hb.1; omega, hb.2⟩
  · rcases h5 b hx with h | h
    · exact hK.2 h
    · have := h.1; omega
/-- A block made before w1 that is not of S or R is in neither log. -/
theorem not_in {S S' : Nat → Prop} {b : Nat} (h4 : ∀ b, S' b → S b ∨ Fresh w1 W b) (hb : b < w1.heap.size) (hn : ¬ S b) : ¬ S' b := fun h => (h4 b h).elim hn (fun h => by have := h.1; omega)
theorem TwoS.ag (h : TwoS S R w1 p q La Lb W) : Ag (fun k => ¬ S k ∧ ¬ R k) w1 W := let ⟨_, _, _, _, _, _, _, h⟩ := h; h
theorem put_T {K : Nat → Prop} {e : En} {A : Option Addr} {c : Nat} (h : TwoS S R w1 p q La Lb W) (hS : ∀ b, S b → b < w1.heap.size) (hR : ∀ b, R b → b < w1.heap.size) (ha : Rd w1 K A c (u8s e.data)) (hK : ∀ b, K b → b < w1.heap.size ∧ ¬ S b ∧ ¬ R b) (hl : e.data.length ≤ c) (hc : c ≤ maxLen) (hs : La.length + 1 ≤ 100000) (hd : e.data.length ≤ 100000000) :
    Calls Tryz.prog 30 #[.pointer (some ⟨p, 0, none⟩), enA e A c] W fun x w' => x = .returned (.int .i64 (La.length + 1)) ∧ TwoS S R w1 p q (La ++ [e]) Lb w' := by
  have hag := h.ag
  obtain ⟨S', R', h1, h2, h3, h4, h5, h6⟩ := h
  refine (PutS_any S' K W p La e A c h1 (TwoS.lt hS h4 hag.size) (ha.keep (fun b hb => hag.block b (hK b hb).1 (hK b hb).2) (fun _ h => h)) (fun b hb => ⟨Nat.lt_of_lt_of_le (hK b hb).1 hag.size, not_in h4 (hK b hb).1 (hK b hb).2.1⟩) hl hc hs hd).mono ?_
  rintro x w' ⟨rfl, k1, k2⟩
  exact ⟨rfl, TwoS.log hS hR h2 h3 h4 h5 h6 k1 k2⟩
theorem rput_T {K : Nat → Prop} {e : En} {A : Option Addr} {c : Nat} (h : TwoS S R w1 p q La Lb W) (hS : ∀ b, S b → b < w1.heap.size) (hR : ∀ b, R b → b < w1.heap.size) (ha : Rd w1 K A c (u8s e.data)) (hK : ∀ b, K b → b < w1.heap.size ∧ ¬ S b ∧ ¬ R b) (hs : Lb.length + 1 ≤ 100000) (hd : e.data.length ≤ 1000000) :
    Calls Tryz.prog 31 #[.pointer (some ⟨q, 0, none⟩), enA e A c] W fun x w' => x = .returned (.int .i64 (Lb.length + 1)) ∧ TwoS S R w1 p q La (Lb ++ [e]) w' := by
  have hag := h.ag
  obtain ⟨S', R', h1, h2, h3, h4, h5, h6⟩ := h
  refine (refPut_S R' K W q Lb e A c h2 (TwoS.lt hR h5 hag.size) (ha.keep (fun b hb => hag.block b (hK b hb).1 (hK b hb).2) (fun _ h => h)) (fun b hb => Nat.lt_of_lt_of_le (hK b hb).1 hag.size) hs hd).mono ?_
  rintro x w' ⟨rfl, k1, k2⟩
  exact ⟨rfl, TwoS.ref hS hR h1 h3 h4 h5 h6 k1 k2⟩
theorem fit_T {K : Nat → Prop} {ns : List En} {A : Option Addr} {c : Nat} {i t : Int} (h : TwoS S R w1 p q La Lb W) (hS : ∀ b, S b → b < w1.heap.size) (hR : ∀ b, R b → b < w1.heap.size) (ha : Ents w1 K A c ns) (hK : ∀ b, K b → b < w1.heap.size ∧ ¬ S b ∧ ¬ R b) (hs : La.length + ns.length ≤ 100000) (hd : ∀ e ∈ ns, e.data.length ≤ 100000000) :
    Calls Tryz.prog 20 #[.pointer (some ⟨p, 0, none⟩), .int .i64 i, .int .i64 t, .slice A ns.length c] W fun x w' => x = .returned (.tuple #[.int .i64 (fitR La ns i t).1, .int .i64 (fitR La ns i t).2.1, .bool (fitR La ns i t).2.2.1]) ∧ TwoS S R w1 p q (fitR La ns i t).2.2.2 Lb w' := by
  have hag := h.ag
  obtain ⟨S', R', h1, h2, h3, h4, h5, h6⟩ := h
  refine (FitS_any S' K A c ns W p La i t h1 (ha.keep (fun b hb => hag.block b (hK b hb).1 (hK b hb).2) (fun _ h => h)) (fun b hb => ⟨Nat.lt_of_lt_of_le (hK b hb).1 hag.size, not_in h4 (hK b hb).1 (hK b hb).2.1⟩) hs hd).mono ?_
  rintro x w' ⟨last, chg, ok, es', rfl, hF, k1, k2⟩
  have e := hF.eq
  have e1 := congrArg Prod.fst e
  have e2 := congrArg (fun z => z.2.1) e
  have e3 := congrArg (fun z => z.2.2.1) e
  have e4 := congrArg (fun z => z.2.2.2) e
  simp only [] at e1 e2 e3 e4
  subst e1 e2 e3 e4
  exact ⟨rfl, TwoS.log hS hR h2 h3 h4 h5 h6 k1 k2⟩
theorem rfit_T {K : Nat → Prop} {ns : List En} {A : Option Addr} {c : Nat} {i t : Int} (h : TwoS S R w1 p q La Lb W) (hS : ∀ b, S b → b < w1.heap.size) (hR : ∀ b, R b → b < w1.heap.size) (ha : Ents w1 K A c ns) (hK : ∀ b, K b → b < w1.heap.size ∧ ¬ S b ∧ ¬ R b) (hs : Lb.length + ns.length ≤ 100000) (hd : ∀ e ∈ ns, e.data.length ≤ 1000000) :
    Calls Tryz.prog 38 #[.pointer (some ⟨q, 0, none⟩), .int .i64 i, .int .i64 t, .slice A ns.length c] W fun x w' => x = .returned (.tuple #[.int .i64 (fitR Lb ns i t).1, .int .i64 (fitR Lb ns i t).2.1, .bool (fitR Lb ns i t).2.2.1]) ∧ TwoS S R w1 p q La (fitR Lb ns i t).2.2.2 w' := by
  have hag := h.ag
  obtain ⟨S', R', h1, h2, h3, h4, h5, h6⟩ := h
  refine (refFit_S R' K W q Lb ns i t A c h2 (TwoS.lt hR h5 hag.size) (ha.keep (fun b hb => hag.block b (hK b hb).1 (hK b hb).2) (fun _ h => h)) (fun b hb => ⟨Nat.lt_of_lt_of_le (hK b hb).1 hag.size, not_in h5 (hK b hb).1 (hK b hb).2.2⟩) hs hd).mono ?_
  rintro x w' ⟨last, chg, ok, es', rfl, hF, k1, k2⟩
  have e := hF.eq
  have e1 := congrArg Prod.fst e
  have e2 := congrArg (fun z => z.2.1) e
  have e3 := congrArg (fun z => z.2.2.1) e
  have e4 := congrArg (fun z => z.2.2.2) e
  simp only [] at e1 e2 e3 e4
  subst e1 e2 e3 e4
  exact ⟨rfl, TwoS.ref hS hR h1 h3 h4 h5 h6 k1 k2⟩
theorem TwoS.has (h : TwoS S R w1 p q La Lb W) : Has 0 W p La := let ⟨_, _, h, _⟩ := h; h.has
end
end Go.Proofs.YtcbomcbflmgmhaaGreat
