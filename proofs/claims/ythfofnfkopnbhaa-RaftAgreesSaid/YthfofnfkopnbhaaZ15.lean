/- raft, the walk: Letter. raft, the walk: New. raft: the document's examples, in plain terms. -/
import Derived.Test.YthfofnfkopnbhaaW20N
import Derived.Test.YthfofnfkopnbhaaW21
import Derived.Test.YthfofnfkopnbhaaZ11
import Derived.Test.YthfofnfkopnbhaaZ20
namespace Go.Proofs.Ythfofnfkopnbhaa
open Go.RowKit Go.Maps Go.ChangeMaps
set_option linter.unusedVariables false
set_option linter.unusedSimpArgs false
set_option linter.unusedSectionVars false
set_option maxRecDepth 100000

section
variable {w w' : World} {P : Nat} {n id : Int} {m : Pm} {R : Nat → Prop} {c c' : Cs En}
theorem letter1_any {lb pb : Nat} (b : Bool) (l : Lt En) (ver : Int) (A : Option Addr) (d : Nat) (K : Nat → Prop) (hbr : b = true ↔ RightOk l ver) (h : PeA w P n id m R c) (hk : Ok n id c) (ho : c.out.length ≤ 10000)
    (hlb : Bk w lb 40 (ltV l ver A d)) (hpb : Bk w pb 46 [.pointer (some ⟨P, 0, none⟩)]) (n1 : ¬ m.Own P lb) (n2 : ¬ m.Own P pb) (he : Ents w K A d l.ents) (hKo : ∀ b, K b → b < w.heap.size ∧ ¬ m.Own P b)
    (hlen : l.ents.length ≤ 9000000000) (hd : ∀ e ∈ l.ents, e.data.length ≤ 100000000) (hmat : c.p.role = 3 → 0 ≤ c.p.mat l.src) :
    Calls Try.prog 35 #[.pointer (some ⟨lb, 0, none⟩), .pointer (some ⟨pb, 0, none⟩)] w fun e w' => e = .returned (.tuple #[]) ∧ Went P n id m R (letterP En.term noopE n id b l c) w w' := by
  by_cases hg : b = true ∧ ForMe n id l
  · obtain ⟨rfl, hg⟩ := hg
    exact letter1_yes l ver A d K (hbr.mp rfl) hg h hk ho hlb hpb n1 n2 he hKo hlen hd hmat
  · exact letter1_no b l ver A d K hbr h hk ho hlb hpb n1 n2 he hKo hlen hd hmat hg
set_option maxHeartbeats 4000000 in
theorem letter_any (b : Bool) (l : Lt En) (ver : Int) (A : Option Addr) (d : Nat) (K : Nat → Prop) (hbr : b = true ↔ RightOk l ver) (h : PeA w P n id m R c) (hk : Ok n id ⟨c.p, 0, []⟩) (he : Ents w K A d l.ents) (hKo : ∀ b, K b → b < w.heap.size ∧ ¬ m.Own P b)
    (hlen : l.ents.length ≤ 9000000000) (hd : ∀ e ∈ l.ents, e.data.length ≤ 100000000) (hmat : c.p.role = 3 → 0 ≤ c.p.mat l.src) :
    Calls Try.prog 14 #[.pointer (some ⟨P, 0, none⟩), ltA l ver A d] w fun e w' => Told P n id m P (letterP En.term noopE n id b l ⟨c.p, 0, []⟩) w e w' := by
  have hmf : ∀ (fn : Fn) (first cap : Array Value) (w : World), (Instr.makeFunc fn first cap).run Try.prog w = .ok (.func fn first cap) w := fun _ _ _ _ => rfl
  obtain ⟨cT, hcT⟩ : ∃ cT, letterP En.term noopE n id b l ⟨c.p, 0, []⟩ = cT := ⟨_, rfl⟩
  rw [hcT]
  have HCT := Lib.hid hcT
  clear hcT
  have H := Lib.hid h
  have HE := Lib.hid he
  have hP := h.plt
  have hz : (((w.alloc (.cells #[.pointer (some ⟨P, 0, none⟩)] 46)).alloc (.cells (ltV l ver A d).toArray 40)).alloc (.cells #[.int .i64 0, .int .i64 0, .int .i64 0, .int .i64 0, .slice none 0 0] 48)).heap.size = w.heap.size + 3 := by simp
  have b1 : Bk (((w.alloc (.cells #[.pointer (some ⟨P, 0, none⟩)] 46)).alloc (.cells (ltV l ver A d).toArray 40)).alloc (.cells #[.int .i64 0, .int .i64 0, .int .i64 0, .int .i64 0, .slice none 0 0] 48)) w.heap.size 46 [.pointer (some ⟨P, 0, none⟩)] := ((Bk.new w _ _).alloc _).alloc _
  have b2 : Bk (((w.alloc (.cells #[.pointer (some ⟨P, 0, none⟩)] 46)).alloc (.cells (ltV l ver A d).toArray 40)).alloc (.cells #[.int .i64 0, .int .i64 0, .int .i64 0, .int .i64 0, .slice none 0 0] 48)) (w.heap.size + 1) 40 (ltV l ver A d) := by
    have := Bk.new (w.alloc (.cells #[.pointer (some ⟨P, 0, none⟩)] 46)) 40 (ltV l ver A d)
    rw [World.size_alloc] at this
    exact this.alloc _
  have b3 : Bk (((w.alloc (.cells #[.pointer (some ⟨P, 0, none⟩)] 46)).alloc (.cells (ltV l ver A d).toArray 40)).alloc (.cells #[.int .i64 0, .int .i64 0, .int .i64 0, .int .i64 0, .slice none 0 0] 48)) (w.heap.size + 1 + 1) 48 [.int .i64 0, .int .i64 0, .int .i64 0, .int .i64 0, .slice none 0 0] := by
    have := Bk.new ((w.alloc (.cells #[.pointer (some ⟨P, 0, none⟩)] 46)).alloc (.cells (ltV l ver A d).toArray 40)) 48 [.int .i64 0, .int .i64 0, .int .i64 0, .int .i64 0, .slice none 0 0]
    rw [World.size_alloc, World.size_alloc] at this
    exact this
  have hb : Below w.heap.size w (((w.alloc (.cells #[.pointer (some ⟨P, 0, none⟩)] 46)).alloc (.cells (ltV l ver A d).toArray 40)).alloc (.cells #[.int .i64 0, .int .i64 0, .int .i64 0, .int .i64 0, .slice none 0 0] 48)) := (((Below.refl _ _).alloc (Nat.le_refl _) _).alloc (by simp) _).alloc (by simp; omega) _
  obtain ⟨w3, hw3⟩ : ∃ w3, w3 = (((w.alloc (.cells #[.pointer (some ⟨P, 0, none⟩)] 46)).alloc (.cells (ltV l ver A d).toArray 40)).alloc (.cells #[.int .i64 0, .int .i64 0, .int .i64 0, .int .i64 0, .slice none 0 0] 48)) := ⟨_, rfl⟩
  rw [← hw3] at b1 b2 b3 hb hz
  have B2 := Lib.hid b2
  have B1 := Lib.hid b1
  have B3 := Lib.hid b3
  have HB := Lib.hid hb
  clear h he b1 b2 b3 hb
  go_enter Try.func14, Try.ntmps14
  unfold ltA
  simp only [ltV] at hw3 ⊢
  go_wp2_with fail
  rw [← hw3]
  clear hw3
  have hown : ∀ b, m.Own P b → b < w.heap.size := H.out.r.own
  refine (call_any 35 _ P (fun _ => True) (fun _ _ _ _ => trivial) (enters_of Try.func35 (by kernel_rfl) rfl) (H.out.below HB.out) (by have := hk.i1; omega) (by omega) (c' := cT) ?_).mono ?_
  · intro w1 hP1 hA1
    have hsub : ∀ b, ({ m with lv := .slice none 0 0, ds := [] } : Pm).Own P b → m.Own P b := by
      rintro b (e | e | e | e)
      · exact .inl e
      · exact .inr (.inl e)
      · cases e
      · exact .inr (.inr (.inr e))
    have hs1 := hA1.size
    refine (letter1_any b l ver A d K hbr hP1 hk (Nat.zero_le _) (B2.out.ag hA1 (by omega)) (B1.out.ag hA1 (by omega)) (fun e => by have := hown _ (hsub _ e); omega) (fun e => by have := hown _ (hsub _ e); omega)
      (HE.out.keep (fun b hb => (hA1.block b (by have := (hKo b hb).1; omega) (fun e => (hKo b hb).2 (.inl e))).trans (HB.out.block b (hKo b hb).1)) (fun _ h => h)) (fun b hb => ⟨by have := (hKo b hb).1; omega, fun e => (hKo b hb).2 (hsub b e)⟩) hlen hd hmat).mono ?_
    rintro e w2 ⟨rfl, m2, R2, h1, h2, h3, h4⟩
    rw [HCT.out] at h1
    exact ⟨rfl, trivial, m2, R2, h1, fun b hb' => (h2 b hb').imp (hsub b) (fun x => x), fun b hb' => (h3 b hb').elim (fun h => h.elim) (fun x => x), h4.mono (fun b _ hb' e => hb'.1 (hsub b e))⟩
  rintro e w4 ⟨hT, _⟩
  have HT := Lib.hid hT
  obtain ⟨lv, m', rfl, h4, h5, h6, h7⟩ := hT
  obtain ⟨A', cap, rfl⟩ := h7.form
  have hrb : ¬ m.Own P (w.heap.size + 1 + 1) := fun e => by have := hown _ e; omega
  have b4 := B3.out.ag h6 ⟨hrb, by omega⟩
  obtain ⟨e0, e1, e2, e3, e4⟩ := cells5 b4
  have ef := b4.frozen
  have HB4 := Lib.hid b4
  clear h4 h5 h6 h7 b4 hrb
  unfold outV
  go_wp2_with fail
  obtain ⟨q0, q1, q2, q3, q4⟩ := cells5 (bk5 HB4.out (.int .i64 cT.p.T) (.int .i64 cT.p.V) (.int .i64 cT.frm) (.int .i64 cT.p.C) (.slice A' cT.out.length cap))
  have hA5 := ag5 w4 (w.heap.size + 1 + 1) (.int .i64 cT.p.T) (.int .i64 cT.p.V) (.int .i64 cT.frm) (.int .i64 cT.p.C) (.slice A' cT.out.length cap)
  generalize (((((w4.setCell ⟨w.heap.size + 1 + 1, 0, none⟩ (.int .i64 cT.p.T)).setCell ⟨w.heap.size + 1 + 1, 1, none⟩ (.int .i64 cT.p.V)).setCell ⟨w.heap.size + 1 + 1, 2, none⟩ (.int .i64 cT.frm)).setCell ⟨w.heap.size + 1 + 1, 3, none⟩ (.int .i64 cT.p.C)).setCell ⟨w.heap.size + 1 + 1, 4, none⟩ (.slice A' cT.out.length cap)) = w5 at *
  exact bodyPost_ret (v := outV cT (.slice A' cT.out.length cap)) (by simp [results, Try.results14, go_sem, outV, q0, q1, q2, q3, q4]) rfl (HT.out.out HB.out hown (by omega) (by omega) hA5)
end
end Go.Proofs.Ythfofnfkopnbhaa
namespace Go.Proofs.Ythfofnfkopnbhaa
open Go.RowKit Go.Maps Go.ChangeMaps
set_option linter.unusedVariables false
set_option linter.unusedSimpArgs false
set_option linter.unusedSectionVars false
set_option maxRecDepth 100000

theorem last_nil (w : World) : Calls Try.prog 23 #[.pointer none] w fun e w' => e = .returned (.tuple #[.int .i64 0, .int .i64 0]) ∧ Below w.heap.size w w' := by
  go_enter Try.func23, Try.ntmps23
  go_wp2_with fail
  refine (known_nil w).mono ?_
  rintro _ w1 ⟨rfl, rfl⟩
  go_wp2_with fail
  exact bodyPost_ret (v := .tuple #[.int .i64 0, .int .i64 0]) (by simp [results, Try.results23, go_sem]) rfl ⟨rfl, Below.refl _ _⟩
theorem in_any (w : World) (a b x : Int) (h1 : b ≤ a) (h2 : a ≤ x) : Calls Try.prog 24 #[.int .i64 a, .int .i64 b, .int .i64 x] w fun e w' => e = .returned (.bool true) ∧ w = w' := by
  have d1 : decide (b ≤ a) = true := decide_eq_true h1
  have d2 : decide (a ≤ x) = true := decide_eq_true h2
  go_enter Try.func24, Try.ntmps24
  clear h1 h2
  go_wp2_with fail
  go_ret
  exact ⟨rfl, rfl⟩
theorem new_nil (w : World) (i s t v k : Int) : Calls Try.prog 10 #[.int .i64 i, .int .i64 s, .int .i64 t, .int .i64 v, .pointer none, .int .i64 k] w fun e w' => e = .returned (.pointer none) ∧ Below w.heap.size w w' := by
  have hL := last_nil w
  go_enter Try.func10, Try.ntmps10
  go_wp2_with fail
  refine hL.mono ?_
  rintro _ w1 ⟨rfl, hb⟩
  clear hL
  go_wp2_with fail
  go_ret
  exact ⟨rfl, hb⟩
set_option maxHeartbeats 2000000 in
theorem new_ok (w : World) (lp : Nat) (L : Nat → Prop) (n id T V C : Int) (log : List En) (hl : LogS L w lp log) (hlt : ∀ b, L b → b < w.heap.size) (hi1 : 1 ≤ id) (hi2 : id ≤ n) (hn : n ≤ 7) (ht : 0 ≤ T) (ht2 : T ≤ 1099511627776) (hv : 0 ≤ V) (hv2 : V ≤ n) (hc : 0 ≤ C) (hc2 : C ≤ log.length) :
    Calls Try.prog 10 #[.int .i64 id, .int .i64 n, .int .i64 T, .int .i64 V, .pointer (some ⟨lp, 0, none⟩), .int .i64 C] w fun e w' => ∃ P m, e = .returned (.pointer (some ⟨P, 0, none⟩)) ∧ PeA w' P n id m (fun _ => False) ⟨⟨T, V, C, log, 1, 0, 0, 10, [], fun _ => 0, fun _ => 0⟩, 0, []⟩ ∧ (∀ b, m.Own P b → L b ∨ w.heap.size ≤ b) ∧ Below w.heap.size w w' := by
  have hL := Last_any 0 w lp log hl.has
  go_enter Try.func10, Try.ntmps10
  go_wp2_with fail
  refine hL.mono ?_
  rintro _ w1 ⟨rfl, hb⟩
  clear hL
  go_wp2_with fail
  refine (in_any _ _ _ _ (by omega) (by omega)).mono ?_
  rintro _ _ ⟨rfl, rfl⟩
  go_wp2_with fail
  refine (in_any _ _ _ _ (by omega) (by omega)).mono ?_
  rintro _ _ ⟨rfl, rfl⟩
  go_wp2_with fail
  refine (in_any _ _ _ _ (by omega) (by omega)).mono ?_
  rintro _ _ ⟨rfl, rfl⟩
  go_wp2_with fail
  refine (in_any _ _ _ _ (by omega) (by omega)).mono ?_
  rintro _ _ ⟨rfl, rfl⟩
  go_wp2_with fail
  refine (in_any _ _ _ _ (by omega) (by omega)).mono ?_
  rintro _ _ ⟨rfl, rfl⟩
  go_wp2_with fail
  go_ret
  have hb2 : Below w1.heap.size w1 (w1.alloc (.cells (peV n id ⟨lp, L, .slice none 0 0, 0, [], .map none, .map none, []⟩ (⟨⟨T, V, C, log, 1, 0, 0, 10, [], fun _ => 0, fun _ => 0⟩, 0, []⟩ : Cs En)).toArray 54)) := (Below.refl _ _).alloc (Nat.le_refl _) _
  have hs := hb.size
  have hs2 : w1.heap.size < (w1.alloc (.cells (peV n id ⟨lp, L, .slice none 0 0, 0, [], .map none, .map none, []⟩ (⟨⟨T, V, C, log, 1, 0, 0, 10, [], fun _ => 0, fun _ => 0⟩, 0, []⟩ : Cs En)).toArray 54)).heap.size := by simp
  have hown : ∀ b, (⟨lp, L, .slice none 0 0, 0, [], .map none, .map none, []⟩ : Pm).Own w1.heap.size b → b = w1.heap.size ∨ L b := by
    rintro b (e | e | e | e | e | ⟨k, e⟩)
    · exact .inl e
    · exact .inr e
    · cases e
    · cases e
    · cases e
    · cases e
  have hoth : ∀ b, ¬ (⟨lp, L, .slice none 0 0, 0, [], .map none, .map none, []⟩ : Pm).Oth b := by
    rintro b (e | e | e | ⟨k, e⟩)
    · cases e
    · cases e
    · cases e
    · cases e
  refine ⟨w1.heap.size, ⟨lp, L, .slice none 0 0, 0, [], .map none, .map none, []⟩, rfl, ⟨Bk.new w1 _ _, ?_⟩, fun b hb' => (hown b hb').elim (fun h => .inr (by omega)) .inl, hb.trans (hb2.mono hs)⟩
  exact ⟨hl.keep ((Ag.of_below _ hb).trans (Ag.of_below _ (hb2))), Row.nil _ _ _ _, rfl, fun i l d hi => by simp at hi, .inl ⟨rfl, rfl⟩, fun e => absurd (show (1 : Int) = 2 from e) (by decide), .inl ⟨rfl, rfl⟩, fun k b hb => (by cases hb), fun e => absurd (show (1 : Int) = 3 from e) (by decide), fun b hb => (hown b hb).elim (fun h => by rw [h]; exact hs2) (fun h => Nat.lt_of_lt_of_le (hlt b h) (Nat.le_trans hs (Nat.le_of_lt hs2))), fun b hb => hb.elim, fun h => by have := hlt _ h; omega, fun b hb => (hoth b hb).elim, fun b hb => (by cases hb), List.nodup_nil⟩
end Go.Proofs.Ythfofnfkopnbhaa
namespace Go.Proofs.Ythfofnfkopnbhaa
open Go.RowKit Go.Maps Go.ChangeMaps
set_option linter.unusedVariables false
set_option linter.unusedSimpArgs false
set_option linter.unusedSectionVars false
set_option maxRecDepth 100000

/-- A peer at rest, so many ticks old. -/
def sP (k : Int) : Pr En := ⟨0, 0, 0, [], 1, 0, k, 10, [], fun _ => 0, fun _ => 0⟩
theorem tick_s (n k : Int) (hk : k < 9) : tickP En.term noopE n 1 0 ⟨sP k, 0, []⟩ = ⟨sP (k + 1), 0, []⟩ := by
  unfold tickP
  rw [if_neg (show ¬ ((⟨sP k, 0, []⟩ : Cs En).p.role = 3) from (by show ¬ ((1 : Int) = 3); decide))]
  simp only
  rw [if_neg (fun h => by have : (10 : Int) ≤ k + 1 := h.1; omega)]
  rfl
def cA : Cs En := tickP En.term noopE 1 1 0 ⟨sP 9, 0, []⟩
def cB : Cs En := tickP En.term noopE 3 1 0 ⟨sP 9, 0, []⟩
def lB : Lt En := { (lt0 2 : Lt En) with src := 2, dst := 1, term := 1, ok := true }
def cX : Cs En := letterP En.term noopE 3 1 true lB ⟨cB.p, 0, []⟩
theorem tick_stand (n : Int) : tickP En.term noopE n 1 0 ⟨sP 9, 0, []⟩ = standP En.term noopE n 1 0 ⟨sP 10, 0, []⟩ := by
  unfold tickP
  rw [if_neg (show ¬ (sP 9).role = 3 by unfold sP; decide)]
  simp only
  rw [if_pos (by unfold sP; decide)]
  rfl
theorem cA_is : cA.p.T = 1 ∧ cA.p.V = 1 ∧ cA.frm = 1 ∧ cA.p.C = 1 ∧ cA.out = [] ∧ cA.p.role = 3 := by
  unfold cA
  rw [tick_stand]
  have ho : others 1 1 = [] := by decide
  simp [standP, winP, ho, putP, changedP, settleP, medP, sP, noopE, tmAt]
theorem cB_is : cB.p = ⟨1, 1, 0, [], 2, 0, 0, 10, [1], fun _ => 0, fun _ => 0⟩ ∧ cB.out = [{ (lt0 1 : Lt En) with src := 1, dst := 2, term := 1 }, { (lt0 1 : Lt En) with src := 1, dst := 3, term := 1 }] := by
  unfold cB
  rw [tick_stand]
  have ho : others 3 1 = [2, 3] := by decide
  simp [standP, winP, ho, putP, changedP, settleP, medP, sP, noopE, tmAt, sendP, lt0, lastT]
theorem med3 : ([1, 0, 0] : List Int).mergeSort (fun x y => decide (x ≤ y)) = [0, 0, 1] := by
  rw [med_perm (show ([1, 0, 0] : List Int).Perm [0, 0, 1] by decide)]
  exact List.mergeSort_of_pairwise (by decide)
theorem cX_is : cX.p.role = 3 ∧ cX.p.C = 0 ∧ cX.out.length = 2 ∧ ∃ l l2, cX.out = [l, l2] ∧ l.kind = 3 ∧ l.ents.length = 1 := by
  unfold cX
  rw [cB_is.1]
  have ho : others 3 1 = [2, 3] := by decide
  simp [letterP, lB, lt0, votedP, addV, winP, ho, putP, changedP, settleP, medP, med3, noopE, tmAt, feedP, sendP, lastT]
  rfl
theorem lB_right : RightOk lB 0 := by
  refine ⟨by decide, by decide, by decide, ?_⟩
  unfold KindOk
  rw [if_neg (by decide), if_pos (by decide)]
  exact ⟨rfl, rfl, rfl, rfl, rfl, by show (0 : Int) ≤ 1 ∧ (1 : Int) ≤ 1099511627776; omega⟩
theorem ok_s (n k : Int) (h1 : 1 ≤ n) (h7 : n ≤ 7) (h0 : 0 ≤ k) (h9 : k ≤ 9) : Ok n 1 ⟨sP k, 0, []⟩ :=
  ⟨by omega, h1, h7, by show 0 ≤ 80000; omega, fun e he => (by cases he), by show (0 : Int) ≤ 0; omega, by show (0 : Int) ≤ _; omega, h0, by show k ≤ _; omega, fun e => absurd (show (1 : Int) = 3 from e) (by decide), by show 0 ≤ 90; omega⟩
theorem ok_b : Ok 3 1 ⟨cB.p, 0, []⟩ := by
  rw [cB_is.1]
  exact ⟨by omega, by omega, by omega, by show 0 ≤ 80000; omega, fun e he => (by cases he), by show (0 : Int) ≤ 1; omega, by show (1 : Int) ≤ _; omega, by show (0 : Int) ≤ 0; omega, by show (0 : Int) ≤ _; omega, fun e => absurd (show (2 : Int) = 3 from e) (by decide), by show 1 ≤ 90; omega⟩
end Go.Proofs.Ythfofnfkopnbhaa
