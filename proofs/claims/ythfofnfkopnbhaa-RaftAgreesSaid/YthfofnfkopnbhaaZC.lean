/- raft, the law's world: start. raft, the law's world: start, walked. raft, the law's world: begun. -/
import Derived.BigQuiet
import Derived.Deep.DeepCutAuto
import Derived.StillTailTactics
import Derived.BigRegion
import Derived.Deep.RegionHeld3
import Derived.Deep.OwnRows
import Derived.Test.YthfofnfkopnbhaaZB
namespace Go.Proofs.Ythfofnfkopnbhaa
open Go.RowKit Go.Maps Go.ChangeMaps
set_option linter.unusedVariables false
set_option linter.unusedSimpArgs false
set_option linter.unusedSectionVars false
set_option maxRecDepth 100000

open Classical in
/-- A new peer's marks. -/
noncomputable def tgStart (tg : Nat → Int) (own' : Nat → Prop) (s : Int) : Nat → Int := fun b => if own' b then s else if tg b = s then 0 else tg b
section
variable {X : Int → Prop} {w w' : World} {n : Nat} {tg : Nat → Int} {y : Ly} {prs : Int → Pr En} {k : Kp}
theorem WmX.startTo {w2 : World} (h : WmX X w n tg y prs k) (hX : ∀ t, X t → 1 ≤ t ∧ t ≤ 7) (hb : Below w.heap.size w w2) {s : Nat} (h1 : 1 ≤ s) (h2 : s ≤ n) {P' : Nat} {m' : Pm} {p' : Pr En} (hp : PeA w2 P' n s m' (fun _ => False) ⟨p', 0, []⟩) (hown : ∀ b, m'.Own P' b → w.heap.size ≤ b) :
    WmX (fun t => X t ∧ t ≠ s) (w2.setCell ⟨y.pb, s, none⟩ (.pointer (some ⟨P', 0, none⟩))) n (tgStart tg (m'.Own P') s) { y with P := setAt y.P s P', m := setAt y.m s m', frm := setAt y.frm s 0 } (setAt prs s p') k ∧ Goes tg (tgStart tg (m'.Own P') s) w (w2.setCell ⟨y.pb, s, none⟩ (.pointer (some ⟨P', 0, none⟩))) := by
  have hn7 := h.n7
  have xb : ∀ t : Int, 7 < t → ¬ X t := fun t q e => by have := hX t e; omega
  have hpt := h.tp (xb _ (by decide))
  have hpk := h.pk (xb _ (by decide))
  have hsz := hb.size
  have hsc : (w2.setCell ⟨y.pb, s, none⟩ (.pointer (some ⟨P', 0, none⟩))).heap.size = w2.heap.size := by simp [World.setCell]
  have hold : ∀ b, tg b ≠ 0 → tg b ≠ s → tgStart tg (m'.Own P') s b = tg b := fun b e1 e2 => by
    unfold tgStart
    rw [if_neg, if_neg e2]
    intro q
    have := hown b q
    have := h.lt b e1
    omega
  have hag : Ag (fun b => tg b ≠ 0 ∧ ¬ (X (tg b) ∨ tg b = s ∨ tg b = 102)) w (w2.setCell ⟨y.pb, s, none⟩ (.pointer (some ⟨P', 0, none⟩))) := (Ag.of_below _ hb).setCell (fun _ hK => hK.2 (.inr (.inr hpt))) _
  have g := h.to_ (tg' := tgStart tg (m'.Own P') s) (fun t => X t ∨ t = s ∨ t = 102) (fun _ h => .inl h) (by rintro (e | e | e); exact xb _ (by decide) e; omega; exact absurd e (by decide)) hag (fun b e q => hold b e (fun e2 => q (.inr (.inl e2)))) (fun b e => by
    rw [hsc]
    unfold tgStart at e
    split at e
    · next q => exact hp.r.own b q
    · split at e
      · exact absurd rfl e
      · have := h.lt b e; omega)
  have hx : ∀ t : Int, 7 < t → t ≠ 102 → ¬ (X t ∨ t = s ∨ t = 102) := fun t q1 q2 => by
    rintro (e | e | e)
    · exact xb t q1 e
    · omega
    · exact q2 e
  have hxs : ∀ p : Nat, 1 ≤ p → p ≤ n → ¬ (X p ∧ (p : Int) ≠ s) → (p : Int) ≠ s → ¬ (X p ∨ (p : Int) = s ∨ (p : Int) = 102) := fun p a b q e => by
    rintro (e2 | e2 | e2)
    · exact q ⟨e2, e⟩
    · exact e e2
    · omega
  have hkp : ∀ b, b ≠ y.pb → (w2.setCell ⟨y.pb, s, none⟩ (.pointer (some ⟨P', 0, none⟩))).heap[b]? = w2.heap[b]? := fun b e => Below.heap_setCell _ _ _ _ e
  have hpb := h.lt y.pb (by rw [hpt]; decide)
  refine ⟨⟨h.n1, h.n7, fun _ => g.wb (hx _ (by decide) (by decide)), fun _ => ?_, fun _ => g.tk (hx _ (by decide) (by decide)), fun _ => g.vk (hx _ (by decide) (by decide)), fun _ => g.lk (hx _ (by decide) (by decide)), g.en, fun p a b q => ?_, fun _ => g.net (hx _ (by decide) (by decide)), fun _ => g.ld (hx _ (by decide) (by decide)), fun _ => g.su (hx _ (by decide) (by decide)), fun _ => g.tW (hx _ (by decide) (by decide)), fun _ => (hold _ (by rw [hpt]; decide) (by rw [hpt]; omega)).trans hpt, fun _ => g.tt (hx _ (by decide) (by decide)), fun _ => g.tv (hx _ (by decide) (by decide)), fun _ => g.tl (hx _ (by decide) (by decide)), fun p a b q => ?_, fun _ => g.td (hx _ (by decide) (by decide)), fun _ => g.ts (hx _ (by decide) (by decide)), g.lt⟩, ⟨(Ag.of_below _ hb).setCell (fun _ hK => by have hK : tg y.pb = 0 := hK; rw [hpt] at hK; exact absurd hK (by decide)) _, fun b e => ?_⟩⟩
  · obtain ⟨cs, q1, q2, q3⟩ := (hpk.keep (hb.block _ hpk.lt) (G' := fun p => ¬ X p) (fun _ _ _ h => h)).set h1 h2 (.pointer (some ⟨P', 0, none⟩))
    refine ⟨cs, q1, q2, fun p a b c => ?_⟩
    have hc : (p : Int) = s ∨ ¬ X p := by
      by_cases e : (p : Int) = s
      · exact .inl e
      · exact .inr (fun e2 => c ⟨e2, e⟩)
    refine (q3 p a b hc).trans ?_
    show some (setAt _ _ _ _) = some (Value.pointer (some ⟨setAt y.P s P' p, 0, none⟩))
    unfold setAt
    split <;> rfl
  · show PeA _ (setAt y.P s P' p) n p (setAt y.m s m' p) (fun _ => False) ⟨setAt prs s p' p, setAt y.frm s 0 p, []⟩
    by_cases e : (p : Int) = s
    · obtain rfl : p = s := by omega
      rw [setAt_same, setAt_same, setAt_same, setAt_same]
      refine hp.ag ((Ag.refl _ _).setCell (fun _ hK => ?_) _)
      rcases hK with hK | hK
      · have := hown _ hK
        have hpb : y.pb < w.heap.size := hpb
        have this : w.heap.size ≤ y.pb := this
        omega
      · exact hK
    · rw [setAt_ne _ _ e, setAt_ne _ _ e, setAt_ne _ _ e, setAt_ne _ _ e]
      exact g.pe p a b (hxs p a b q e)
  · show ∀ c, (setAt y.m s m' p).Own (setAt y.P s P' p) c → _
    by_cases e : (p : Int) = s
    · obtain rfl : p = s := by omega
      rw [setAt_same, setAt_same]
      intro c hc
      unfold tgStart
      rw [if_pos hc]
    · rw [setAt_ne _ _ e, setAt_ne _ _ e]
      exact g.tow p a b (hxs p a b q e)
  · unfold tgStart at e
    split at e
    · next q => exact .inr (hown b q)
    · split at e
      · exact absurd rfl e
      · exact .inl e
end
end Go.Proofs.Ythfofnfkopnbhaa
namespace Go.Proofs.Ythfofnfkopnbhaa
open Go.RowKit Go.Maps Go.ChangeMaps
set_option linter.unusedVariables false
set_option linter.unusedSimpArgs false
set_option linter.unusedSectionVars false
set_option maxRecDepth 100000

/-- What start reads. -/
abbrev SSt (w : World) (y : Ly) (n s : Nat) (vT vV vL : Value) : Prop :=
  w.cell? ⟨y.WB, 0, none⟩ = some (.int .i64 n) ∧ w.cell? ⟨y.WB, 1, none⟩ = some (.slice (some ⟨y.pb, 0, none⟩) (n + 1) (n + 1)) ∧ w.cell? ⟨y.WB, 2, none⟩ = some (.slice (some ⟨y.tb, 0, none⟩) (n + 1) (n + 1)) ∧ w.cell? ⟨y.WB, 3, none⟩ = some (.slice (some ⟨y.vb, 0, none⟩) (n + 1) (n + 1)) ∧ w.cell? ⟨y.WB, 4, none⟩ = some (.slice (some ⟨y.lb, 0, none⟩) (n + 1) (n + 1)) ∧
  w.cell? ⟨y.tb, s, none⟩ = some vT ∧ w.cell? ⟨y.vb, s, none⟩ = some vV ∧ w.cell? ⟨y.lb, s, none⟩ = some vL
theorem SSt.below {w w' : World} {y : Ly} {n s : Nat} {vT vV vL : Value} (h : SSt w y n s vT vV vL) {B : Nat} (hb : Below B w w') (hB : B = w.heap.size) : SSt w' y n s vT vV vL := by
  subst hB
  have t : ∀ {p : Addr} {v : Value}, w.cell? p = some v → w'.cell? p = some v := fun {p v} hp => (World.cell?_of_block (hb.block p.block (World.block_lt_of_cell? w _ hp))).trans hp
  obtain ⟨h1, h2, h3, h4, h5, h6, h7, h8⟩ := h
  exact ⟨t h1, t h2, t h3, t h4, t h5, t h6, t h7, t h8⟩
theorem SSt.far {w : World} {y : Ly} {n s : Nat} {vT vV vL : Value} (h : SSt w y n s vT vV vL) {b i : Nat} {v : Value} (h0 : b ≠ y.WB) (h1 : b ≠ y.tb) (h2 : b ≠ y.vb) (h3 : b ≠ y.lb) : SSt (w.setCell ⟨b, i, none⟩ v) y n s vT vV vL := by
  have t : ∀ {p : Addr} {u : Value}, b ≠ p.block → w.cell? p = some u → (w.setCell ⟨b, i, none⟩ v).cell? p = some u := fun {p u} hn hp => (World.cell?_setCell_far w ⟨b, i, none⟩ p v hn).trans hp
  obtain ⟨q1, q2, q3, q4, q5, q6, q7, q8⟩ := h
  exact ⟨t h0 q1, t h0 q2, t h0 q3, t h0 q4, t h0 q5, t h1 q6, t h2 q7, t h3 q8⟩
section
variable {X : Int → Prop} {w w' : World} {n : Nat} {tg : Nat → Int} {y : Ly} {prs : Int → Pr En} {k : Kp}
/-- A server that starts. -/
def prNew (T V : Int) (L : List En) : Pr En := ⟨T, V, 0, L, 1, 0, 0, 10, [], fun _ => 0, fun _ => 0⟩
set_option maxHeartbeats 4000000 in
theorem start_any {s : Nat} (h : WmX X w n tg y prs k) (hX : ∀ t, X t → 1 ≤ t ∧ t ≤ 7) (h1 : 1 ≤ s) (h2 : s ≤ n) (t0 : 0 ≤ k.T s) (t1 : k.T s ≤ 1099511627776) (v0 : 0 ≤ k.V s) (v1 : k.V s ≤ n) (hl : (k.L s).length ≤ 1000) (hd : ∀ e ∈ k.L s, e.data.length ≤ 100000000) :
    Calls Try.prog 21 #[.pointer (some ⟨y.WB, 0, none⟩), .int .i64 s] w fun e w' => e = .returned (.tuple #[]) ∧ ∃ tg' y', WmX (fun t => X t ∧ t ≠ s) w' n tg' y' (setAt prs s (prNew (k.T s) (k.V s) (k.L s))) k ∧ Goes tg tg' w w' ∧ y'.WB = y.WB := by
  have xb : ∀ t : Int, 7 < t → ¬ X t := fun t q e => by have := hX t e; omega
  have hc := (h.wb (xb _ (by decide))).cell
  have hS0 : SSt w y n s (.int .i64 (k.T s)) (.int .i64 (k.V s)) (.slice (y.la s).1 (k.L s).length (y.la s).2) := ⟨hc 0, hc 1, hc 2, hc 3, hc 4, (h.tk (xb _ (by decide))).cell h1 h2 trivial, (h.vk (xb _ (by decide))).cell h1 h2 trivial, (h.lk (xb _ (by decide))).cell h1 h2 trivial⟩
  obtain ⟨vp, hvp⟩ := (h.pk (xb _ (by decide))).some h2
  have HCP := Lib.hid hvp
  have HFP := Lib.hid ((h.pk (xb _ (by decide))).frozen s)
  have HPL := Lib.hid (h.pk (xb _ (by decide))).lt
  have hpt := h.tp (xb _ (by decide))
  have HNE : Hid (y.pb ≠ y.WB ∧ y.pb ≠ y.tb ∧ y.pb ≠ y.vb ∧ y.pb ≠ y.lb) := Lib.hid ⟨fun e => by rw [e, h.tW (xb _ (by decide))] at hpt; exact absurd hpt (by decide), fun e => by rw [e, h.tt (xb _ (by decide))] at hpt; exact absurd hpt (by decide), fun e => by rw [e, h.tv (xb _ (by decide))] at hpt; exact absurd hpt (by decide), fun e => by rw [e, h.tl (xb _ (by decide))] at hpt; exact absurd hpt (by decide)⟩
  have hn7 := h.n7
  have hLn := NewS_any (y.la s).1 (y.la s).2 (k.L s) w.drew ((h.en s h1 h2).keep (fun _ _ => rfl) (fun b hb => h.lt b (by have hb : tg b = 100 := hb; omega))) (by omega) hd
  have HB0 := Lib.hid (Below.refl w.heap.size w).drew
  have H := Lib.hid h
  clear h hc hvp hpt
  go_enter Try.func21, Try.ntmps21
  refine wp_region_held_drew (S := fun w' => SSt w' y n s (.int .i64 (k.T s)) (.int .i64 (k.V s)) (.slice (y.la s).1 (k.L s).length (y.la s).2)) (by kernel_rfl) (hS0.below HB0.out rfl) (fun hS => ?_)
  clear hS0
  refine wpAnyH_take (i := 0) (v := ?_) rfl (by kernel_rfl) (by kernel_rfl) (by kernel_rfl) (fun _ _ _ h => h) (Or.inl ⟨by rfl, ?_⟩) hS ?_
  rotate_left 1
  · intro w' hSw
    go_simp <;> with_reducible rfl
  try simp only [List.getElem_toArray, List.getElem_cons_zero, List.getElem_cons_succ, Act.put, List.setIfInBounds_toArray, List.set_cons_zero, List.set_cons_succ]
  refine wpAnyH_take (i := 1) (v := ?_) rfl (by kernel_rfl) (by kernel_rfl) (by kernel_rfl) (fun _ _ _ h => h) (Or.inl ⟨by rfl, ?_⟩) hS ?_
  rotate_left 1
  · intro w' hSw
    go_simp <;> with_reducible rfl
  try simp only [List.getElem_toArray, List.getElem_cons_zero, List.getElem_cons_succ, Act.put, List.setIfInBounds_toArray, List.set_cons_zero, List.set_cons_succ]
  refine wpAnyH_take (i := 2) (v := ?_) rfl (by kernel_rfl) (by kernel_rfl) (by kernel_rfl) (fun _ _ _ h => h) (Or.inl ⟨by rfl, ?_⟩) hS ?_
  rotate_left 1
  · intro w' hSw
    go_simp <;> with_reducible rfl
  try simp only [List.getElem_toArray, List.getElem_cons_zero, List.getElem_cons_succ, Act.put, List.setIfInBounds_toArray, List.set_cons_zero, List.set_cons_succ]
  refine wpAnyH_take (i := 3) (v := ?_) rfl (by kernel_rfl) (by kernel_rfl) (by kernel_rfl) (fun _ _ _ h => h) (Or.inl ⟨by rfl, ?_⟩) hS ?_
  rotate_left 1
  · intro w' hSw
    go_simp <;> with_reducible rfl
  try simp only [List.getElem_toArray, List.getElem_cons_zero, List.getElem_cons_succ, Act.put, List.setIfInBounds_toArray, List.set_cons_zero, List.set_cons_succ]
  refine wpAnyH_take (i := 4) (v := ?_) rfl (by kernel_rfl) (by kernel_rfl) (by kernel_rfl) (fun _ _ _ h => h) (Or.inl ⟨by rfl, ?_⟩) hS ?_
  rotate_left 1
  · intro w' hSw
    go_simp <;> with_reducible rfl
  try simp only [List.getElem_toArray, List.getElem_cons_zero, List.getElem_cons_succ, Act.put, List.setIfInBounds_toArray, List.set_cons_zero, List.set_cons_succ]
  refine wpAnyH_take (i := 5) (v := ?_) rfl (by kernel_rfl) (by kernel_rfl) (by kernel_rfl) (fun _ _ _ h => h) (Or.inl ⟨by rfl, ?_⟩) hS ?_
  rotate_left 1
  · intro w' hSw
    go_simp <;> with_reducible rfl
  try simp only [List.getElem_toArray, List.getElem_cons_zero, List.getElem_cons_succ, Act.put, List.setIfInBounds_toArray, List.set_cons_zero, List.set_cons_succ]
  refine wpAnyH_take (i := 6) (v := ?_) rfl (by kernel_rfl) (by kernel_rfl) (by kernel_rfl) (fun _ _ _ h => h) (Or.inl ⟨by rfl, ?_⟩) hS ?_
  rotate_left 1
  · intro w' hSw
    go_simp <;> with_reducible rfl
  try simp only [List.getElem_toArray, List.getElem_cons_zero, List.getElem_cons_succ, Act.put, List.setIfInBounds_toArray, List.set_cons_zero, List.set_cons_succ]
  refine wpAnyH_take (i := 7) (v := ?_) rfl (by kernel_rfl) (by kernel_rfl) (by kernel_rfl) (fun _ _ _ h => h) (Or.inl ⟨by rfl, ?_⟩) hS ?_
  rotate_left 1
  · intro w' hSw
    go_simp <;> with_reducible rfl
  try simp only [List.getElem_toArray, List.getElem_cons_zero, List.getElem_cons_succ, Act.put, List.setIfInBounds_toArray, List.set_cons_zero, List.set_cons_succ]
  refine wpAnyH_take (i := 8) (v := ?_) rfl (by kernel_rfl) (by kernel_rfl) (by kernel_rfl) (fun _ _ _ h => h) (Or.inl ⟨by rfl, ?_⟩) hS ?_
  rotate_left 1
  · intro w' hSw
    go_simp <;> with_reducible rfl
  try simp only [List.getElem_toArray, List.getElem_cons_zero, List.getElem_cons_succ, Act.put, List.setIfInBounds_toArray, List.set_cons_zero, List.set_cons_succ]
  refine wpAnyH_take (i := 9) (v := ?_) rfl (by kernel_rfl) (by kernel_rfl) (by kernel_rfl) (fun _ _ _ h => h) (Or.inl ⟨by rfl, ?_⟩) hS ?_
  rotate_left 1
  · intro w' hSw
    go_simp <;> with_reducible rfl
  try simp only [List.getElem_toArray, List.getElem_cons_zero, List.getElem_cons_succ, Act.put, List.setIfInBounds_toArray, List.set_cons_zero, List.set_cons_succ]
  refine wpAnyH_take (i := 10) (v := ?_) rfl (by kernel_rfl) (by kernel_rfl) (by kernel_rfl) (fun _ _ _ h => h) (Or.inl ⟨by rfl, ?_⟩) hS ?_
  rotate_left 1
  · intro w' hSw
    go_simp <;> with_reducible rfl
  try simp only [List.getElem_toArray, List.getElem_cons_zero, List.getElem_cons_succ, Act.put, List.setIfInBounds_toArray, List.set_cons_zero, List.set_cons_succ]
  refine wpAnyH_take (i := 11) (v := ?_) rfl (by kernel_rfl) (by kernel_rfl) (by kernel_rfl) (fun _ _ _ h => h) (Or.inl ⟨by rfl, ?_⟩) hS ?_
  rotate_left 1
  · intro w' hSw
    go_simp <;> with_reducible rfl
  try simp only [List.getElem_toArray, List.getElem_cons_zero, List.getElem_cons_succ, Act.put, List.setIfInBounds_toArray, List.set_cons_zero, List.set_cons_succ]
  refine wpAnyH_take (i := 12) (v := ?_) rfl (by kernel_rfl) (by kernel_rfl) (by kernel_rfl) (fun _ _ _ h => h) (Or.inl ⟨by rfl, ?_⟩) hS ?_
  rotate_left 1
  · intro w' hSw
    go_simp <;> with_reducible rfl
  try simp only [List.getElem_toArray, List.getElem_cons_zero, List.getElem_cons_succ, Act.put, List.setIfInBounds_toArray, List.set_cons_zero, List.set_cons_succ]
  refine wpAnyH_take (i := 13) (v := ?_) rfl (by kernel_rfl) (by kernel_rfl) (by kernel_rfl) (fun _ _ _ h => h) (Or.inl ⟨by rfl, ?_⟩) hS ?_
  rotate_left 1
  · intro w' hSw
    go_simp <;> with_reducible rfl
  try simp only [List.getElem_toArray, List.getElem_cons_zero, List.getElem_cons_succ, Act.put, List.setIfInBounds_toArray, List.set_cons_zero, List.set_cons_succ]
  refine wpAnyH_take (i := 14) (v := ?_) rfl (by kernel_rfl) (by kernel_rfl) (by kernel_rfl) (fun _ _ _ h => h) (Or.inl ⟨by rfl, ?_⟩) hS ?_
  rotate_left 1
  · intro w' hSw
    go_simp <;> with_reducible rfl
  try simp only [List.getElem_toArray, List.getElem_cons_zero, List.getElem_cons_succ, Act.put, List.setIfInBounds_toArray, List.set_cons_zero, List.set_cons_succ]
  refine wpAnyH_take (i := 15) (v := ?_) rfl (by kernel_rfl) (by kernel_rfl) (by kernel_rfl) (fun _ _ _ h => h) (Or.inl ⟨by rfl, ?_⟩) hS ?_
  rotate_left 1
  · intro w' hSw
    go_simp
    exact if_pos (show (s : Int) < (n : Int) + 1 by omega)
  try simp only [List.getElem_toArray, List.getElem_cons_zero, List.getElem_cons_succ, Act.put, List.setIfInBounds_toArray, List.set_cons_zero, List.set_cons_succ]
  refine wpAnyH_take (i := 16) (v := ?_) rfl (by kernel_rfl) (by kernel_rfl) (by kernel_rfl) (fun _ _ _ h => h) (Or.inl ⟨by rfl, ?_⟩) hS ?_
  rotate_left 1
  · intro w' hSw
    go_simp <;> with_reducible rfl
  try simp only [List.getElem_toArray, List.getElem_cons_zero, List.getElem_cons_succ, Act.put, List.setIfInBounds_toArray, List.set_cons_zero, List.set_cons_succ]
  refine wpAnyH_take (i := 17) (v := ?_) rfl (by kernel_rfl) (by kernel_rfl) (by kernel_rfl) (fun _ _ _ h => h) (Or.inl ⟨by rfl, ?_⟩) hS ?_
  rotate_left 1
  · intro w' hSw
    go_simp <;> with_reducible rfl
  try simp only [List.getElem_toArray, List.getElem_cons_zero, List.getElem_cons_succ, Act.put, List.setIfInBounds_toArray, List.set_cons_zero, List.set_cons_succ]
  refine wpAnyH_take (i := 18) (v := ?_) rfl (by kernel_rfl) (by kernel_rfl) (by kernel_rfl) (fun _ _ _ h => h) (Or.inl ⟨by rfl, ?_⟩) hS ?_
  rotate_left 1
  · intro w' hSw
    go_simp <;> with_reducible rfl
  try simp only [List.getElem_toArray, List.getElem_cons_zero, List.getElem_cons_succ, Act.put, List.setIfInBounds_toArray, List.set_cons_zero, List.set_cons_succ]
  refine wpAnyH_take (i := 19) (v := ?_) rfl (by kernel_rfl) (by kernel_rfl) (by kernel_rfl) (fun _ _ _ h => h) (Or.inl ⟨by rfl, ?_⟩) hS ?_
  rotate_left 1
  · intro w' hSw
    go_simp <;> with_reducible rfl
  try simp only [List.getElem_toArray, List.getElem_cons_zero, List.getElem_cons_succ, Act.put, List.setIfInBounds_toArray, List.set_cons_zero, List.set_cons_succ]
  refine wpAnyH_take (i := 20) (v := ?_) rfl (by kernel_rfl) (by kernel_rfl) (by kernel_rfl) (fun _ _ _ h => h) (Or.inl ⟨by rfl, ?_⟩) hS ?_
  rotate_left 1
  · intro w' hSw
    go_simp <;> with_reducible rfl
  try simp only [List.getElem_toArray, List.getElem_cons_zero, List.getElem_cons_succ, Act.put, List.setIfInBounds_toArray, List.set_cons_zero, List.set_cons_succ]
  refine wpAnyH_take (i := 21) (v := ?_) rfl (by kernel_rfl) (by kernel_rfl) (by kernel_rfl) (fun _ _ _ h => h) (Or.inl ⟨by rfl, ?_⟩) hS ?_
  rotate_left 1
  · intro w' hSw
    go_simp <;> with_reducible rfl
  try simp only [List.getElem_toArray, List.getElem_cons_zero, List.getElem_cons_succ, Act.put, List.setIfInBounds_toArray, List.set_cons_zero, List.set_cons_succ]
  refine wpAnyH_take (i := 22) (v := ?_) rfl (by kernel_rfl) (by kernel_rfl) (by kernel_rfl) (fun _ _ _ h => h) (Or.inl ⟨by rfl, ?_⟩) hS ?_
  rotate_left 1
  · intro w' hSw
    go_simp
    exact if_pos (show (s : Int) < (n : Int) + 1 by omega)
  try simp only [List.getElem_toArray, List.getElem_cons_zero, List.getElem_cons_succ, Act.put, List.setIfInBounds_toArray, List.set_cons_zero, List.set_cons_succ]
  refine wpAnyH_take (i := 23) (v := ?_) rfl (by kernel_rfl) (by kernel_rfl) (by kernel_rfl) (fun _ _ _ h => h) (Or.inl ⟨by rfl, ?_⟩) hS ?_
  rotate_left 1
  · intro w' hSw
    go_simp <;> with_reducible rfl
  try simp only [List.getElem_toArray, List.getElem_cons_zero, List.getElem_cons_succ, Act.put, List.setIfInBounds_toArray, List.set_cons_zero, List.set_cons_succ]
  refine wpAnyH_take (i := 24) (v := ?_) rfl (by kernel_rfl) (by kernel_rfl) (by kernel_rfl) (fun _ _ _ h => h) (Or.inl ⟨by rfl, ?_⟩) hS ?_
  rotate_left 1
  · intro w' hSw
    go_simp <;> with_reducible rfl
  try simp only [List.getElem_toArray, List.getElem_cons_zero, List.getElem_cons_succ, Act.put, List.setIfInBounds_toArray, List.set_cons_zero, List.set_cons_succ]
  refine wpAnyH_take (i := 25) (v := ?_) rfl (by kernel_rfl) (by kernel_rfl) (by kernel_rfl) (fun _ _ _ h => h) (Or.inl ⟨by rfl, ?_⟩) hS ?_
  rotate_left 1
  · intro w' hSw
    go_simp <;> with_reducible rfl
  try simp only [List.getElem_toArray, List.getElem_cons_zero, List.getElem_cons_succ, Act.put, List.setIfInBounds_toArray, List.set_cons_zero, List.set_cons_succ]
  refine wpAnyH_take (i := 26) (v := ?_) rfl (by kernel_rfl) (by kernel_rfl) (by kernel_rfl) (fun _ _ _ h => h) (Or.inl ⟨by rfl, ?_⟩) hS ?_
  rotate_left 1
  · intro w' hSw
    go_simp <;> with_reducible rfl
  try simp only [List.getElem_toArray, List.getElem_cons_zero, List.getElem_cons_succ, Act.put, List.setIfInBounds_toArray, List.set_cons_zero, List.set_cons_succ]
  refine wpAnyH_take (i := 27) (v := ?_) rfl (by kernel_rfl) (by kernel_rfl) (by kernel_rfl) (fun _ _ _ h => h) (Or.inl ⟨by rfl, ?_⟩) hS ?_
  rotate_left 1
  · intro w' hSw
    go_simp <;> with_reducible rfl
  try simp only [List.getElem_toArray, List.getElem_cons_zero, List.getElem_cons_succ, Act.put, List.setIfInBounds_toArray, List.set_cons_zero, List.set_cons_succ]
  refine wpAnyH_take (i := 28) (v := ?_) rfl (by kernel_rfl) (by kernel_rfl) (by kernel_rfl) (fun _ _ _ h => h) (Or.inl ⟨by rfl, ?_⟩) hS ?_
  rotate_left 1
  · intro w' hSw
    go_simp <;> with_reducible rfl
  try simp only [List.getElem_toArray, List.getElem_cons_zero, List.getElem_cons_succ, Act.put, List.setIfInBounds_toArray, List.set_cons_zero, List.set_cons_succ]
  refine wpAnyH_take (i := 29) (v := ?_) rfl (by kernel_rfl) (by kernel_rfl) (by kernel_rfl) (fun _ _ _ h => h) (Or.inl ⟨by rfl, ?_⟩) hS ?_
  rotate_left 1
  · intro w' hSw
    go_simp
    exact if_pos (show (s : Int) < (n : Int) + 1 by omega)
  try simp only [List.getElem_toArray, List.getElem_cons_zero, List.getElem_cons_succ, Act.put, List.setIfInBounds_toArray, List.set_cons_zero, List.set_cons_succ]
  refine wpAnyH_take (i := 30) (v := ?_) rfl (by kernel_rfl) (by kernel_rfl) (by kernel_rfl) (fun _ _ _ h => h) (Or.inl ⟨by rfl, ?_⟩) hS ?_
  rotate_left 1
  · intro w' hSw
    go_simp <;> with_reducible rfl
  try simp only [List.getElem_toArray, List.getElem_cons_zero, List.getElem_cons_succ, Act.put, List.setIfInBounds_toArray, List.set_cons_zero, List.set_cons_succ]
  refine wpAnyH_ready (rs := [31]) (by kernel_rfl) (by simp) (AllReadyH.cons rfl (fun K hK => ?_) AllReadyH.nil)
  go_simp
  (with_reducible refine hLn.mono ?_)
  rintro _ w1 ⟨lp, rfl, hlog, hb1⟩
  go_simp
  refine hK _ _ (hS.below hb1 rfl) (fun hS => ?_)
  clear hK K
  try simp only [List.getElem_toArray, List.getElem_cons_zero, List.getElem_cons_succ, Act.put, List.setIfInBounds_toArray, List.set_cons_zero, List.set_cons_succ]
  refine wpAnyH_ready (rs := [32]) (by kernel_rfl) (by simp) (AllReadyH.cons rfl (fun K hK => ?_) AllReadyH.nil)
  have hNw := new_ok w1 lp (Fresh w.drew w1) n s (k.T s) (k.V s) 0 (k.L s) hlog (fun b hb => hb.2) (by omega) (by omega) (by omega) t0 t1 v0 v1 (by decide) (by omega)
  go_simp
  (with_reducible refine hNw.mono ?_)
  rintro _ w2 ⟨P', m', rfl, hpe, hown, hb2⟩
  have hb12 : Below w.heap.size w w2 := HB0.out.trans (hb1.trans (hb2.mono hb1.size))
  have cp2 := (World.cell?_of_block (a := ⟨y.pb, s, none⟩) (hb12.block y.pb HPL.out)).trans HCP.out
  have fp2 := (World.frozen?_of_block (a := ⟨y.pb, s, none⟩) (hb12.block y.pb HPL.out)).trans HFP.out
  go_simp
  refine hK _ _ (hS.below hb2 rfl) (fun hS => ?_)
  clear hK K
  try simp only [List.getElem_toArray, List.getElem_cons_zero, List.getElem_cons_succ, Act.put, List.setIfInBounds_toArray, List.set_cons_zero, List.set_cons_succ]
  refine wpAnyH_take (i := 33) (v := ?_) rfl (by kernel_rfl) (by kernel_rfl) (by kernel_rfl) (fun _ _ _ h => h) (Or.inl ⟨by rfl, ?_⟩) hS ?_
  rotate_left 1
  · intro w' hSw
    go_simp
    exact if_pos (show (s : Int) < (n : Int) + 1 by omega)
  try simp only [List.getElem_toArray, List.getElem_cons_zero, List.getElem_cons_succ, Act.put, List.setIfInBounds_toArray, List.set_cons_zero, List.set_cons_succ]
  refine wpAnyH_ready (rs := [34]) (by kernel_rfl) (by simp) (AllReadyH.cons rfl (fun K hK => ?_) AllReadyH.nil)
  go_simp
  refine hK _ _ (hS.far HNE.out.1 HNE.out.2.1 HNE.out.2.2.1 HNE.out.2.2.2) (fun hS => ?_)
  clear hK K
  try simp only [List.getElem_toArray, List.getElem_cons_zero, List.getElem_cons_succ, Act.put, List.setIfInBounds_toArray, List.set_cons_zero, List.set_cons_succ]
  refine wpAnyH_done (by kernel_rfl) ?_ _
  go_wp2_with fail
  go_end0
  have hs1 := hb1.size
  have hst := H.out.startTo hX hb12 h1 h2 (p' := prNew (k.T s) (k.V s) (k.L s)) hpe (fun b hb => (hown b hb).elim (fun h => h.1) (fun h => Nat.le_trans hs1 h))
  exact ⟨rfl, _, { y with P := setAt y.P s P', m := setAt y.m s m', frm := setAt y.frm s 0 }, hst.1, hst.2, rfl⟩
end
end Go.Proofs.Ythfofnfkopnbhaa
namespace Go.Proofs.Ythfofnfkopnbhaa
open Go.RowKit Go.Maps Go.ChangeMaps
set_option linter.unusedVariables false
set_option linter.unusedSimpArgs false
set_option linter.unusedSectionVars false
set_option maxRecDepth 100000

def k00 : Kp := ⟨fun _ => 0, fun _ => 0, fun _ => [], [], [], []⟩
def pm0 : Pm := ⟨0, fun _ => False, .slice none 0 0, 0, [], .map none, .map none, []⟩
def ly0 (WB pb tb vb lb : Nat) : Ly := ⟨WB, pb, tb, vb, lb, fun _ => 0, fun _ => pm0, fun _ => 0, fun _ => (none, 0), .slice none 0 0, .slice none 0 0, .slice none 0 0⟩
def tg0 (WB pb tb vb lb : Nat) : Nat → Int := fun b => if b = WB then 101 else if b = pb then 102 else if b = tb then 103 else if b = vb then 104 else if b = lb then 105 else 0
theorem made_one (z : Value) (n : Nat) : madeCells #[z] n = (List.replicate n z).toArray := by
  rw [← toList_madeCells_one]
theorem rep_get {z : Value} {n s : Nat} (h : s ≤ n) : (List.replicate (n + 1) z)[s]? = some z := by
  rw [List.getElem?_replicate, if_pos (by omega)]
section
variable {w W : World} {n : Nat}
/-- How the law's world begins, no server started. -/
theorem begun_mem {WB pb tb vb lb : Nat} (h1 : 1 ≤ n) (h7 : n ≤ 7) (hwb : W.heap[WB]? = some (.cells #[.int .i64 n, .slice (some ⟨pb, 0, none⟩) (n + 1) (n + 1), .slice (some ⟨tb, 0, none⟩) (n + 1) (n + 1), .slice (some ⟨vb, 0, none⟩) (n + 1) (n + 1), .slice (some ⟨lb, 0, none⟩) (n + 1) (n + 1), .slice none 0 0, .slice none 0 0, .slice none 0 0] 36 (0, 0)))
    (hpb : W.heap[pb]? = some (.cells (madeCells #[.pointer none] (n + 1)) 46 (0, 0))) (htb : W.heap[tb]? = some (.cells (madeCells #[.int .i64 0] (n + 1)) 3 (0, 0))) (hvb : W.heap[vb]? = some (.cells (madeCells #[.int .i64 0] (n + 1)) 3 (0, 0))) (hlb : W.heap[lb]? = some (.cells (madeCells #[.slice none 0 0] (n + 1)) 34 (0, 0)))
    (hb : Below w.heap.size w W) (b1 : w.heap.size ≤ WB) (b2 : w.heap.size ≤ pb) (b3 : w.heap.size ≤ tb) (b4 : w.heap.size ≤ vb) (b5 : w.heap.size ≤ lb)
    (n1 : pb ≠ WB ∧ tb ≠ WB ∧ vb ≠ WB ∧ lb ≠ WB) (n2 : tb ≠ pb ∧ vb ≠ pb ∧ lb ≠ pb) (n3 : vb ≠ tb ∧ lb ≠ tb) (n4 : lb ≠ vb) :
    WmX (fun t => 1 ≤ t ∧ t ≤ n) W n (tg0 WB pb tb vb lb) (ly0 WB pb tb vb lb) (fun _ => prNew 0 0 []) k00 ∧ Goes (fun _ => 0) (tg0 WB pb tb vb lb) w W := by
  rw [made_one] at hpb htb hvb hlb
  have t1 : tg0 WB pb tb vb lb WB = 101 := by simp [tg0]
  have t2 : tg0 WB pb tb vb lb pb = 102 := by simp [tg0, n1]
  have t3 : tg0 WB pb tb vb lb tb = 103 := by simp [tg0, n1, n2]
  have t4 : tg0 WB pb tb vb lb vb = 104 := by simp [tg0, n1, n2, n3]
  have t5 : tg0 WB pb tb vb lb lb = 105 := by simp [tg0, n1, n2, n3, n4]
  have tb5 : ∀ b, tg0 WB pb tb vb lb b ≠ 0 → b = WB ∨ b = pb ∨ b = tb ∨ b = vb ∨ b = lb := fun b h => by
    unfold tg0 at h
    split at h
    · exact .inl ‹_›
    · split at h
      · exact .inr (.inl ‹_›)
      · split at h
        · exact .inr (.inr (.inl ‹_›))
        · split at h
          · exact .inr (.inr (.inr (.inl ‹_›)))
          · split at h
            · exact .inr (.inr (.inr (.inr ‹_›)))
            · exact absurd rfl h
  have hlt : ∀ {b o}, W.heap[b]? = some o → b < W.heap.size := fun h => (Array.getElem?_eq_some_iff.1 h).1
  refine ⟨⟨h1, h7, fun _ => hwb, fun _ => ⟨_, hpb, by simp, fun s q1 q2 q3 => absurd ⟨by omega, by omega⟩ q3⟩, fun _ => ⟨_, htb, by simp, fun s q1 q2 _ => rep_get q2⟩, fun _ => ⟨_, hvb, by simp, fun s q1 q2 _ => rep_get q2⟩, fun _ => ⟨_, hlb, by simp, fun s q1 q2 _ => rep_get q2⟩, fun s _ _ => ⟨fun _ => rfl, Nat.le_refl _, (show (0 : Nat) ≤ maxLen from Nat.zero_le _), fun h => absurd rfl h⟩, fun s q1 q2 q3 => absurd ⟨by omega, by omega⟩ q3, fun _ => ⟨0, 0, [], ⟨by simp [rowL, k00], .inl ⟨rfl, rfl⟩⟩, rfl, (fun e => (by cases e)), fun i l d hi => (by simp [k00] at hi)⟩, fun _ => ⟨0, Row.nil _ _ _ _⟩, fun _ => ⟨0, [], Row.nil _ _ _ _, rfl, (fun e => (by cases e)), fun i e d hi => (by simp [k00] at hi)⟩, fun _ => t1, fun _ => t2, fun _ => t3, fun _ => t4, fun _ => t5, fun s q1 q2 q3 => absurd ⟨by omega, by omega⟩ q3, (fun _ b e => (by cases e)), (fun _ b e => (by cases e)), fun b e => ?_⟩, ⟨⟨hb.os, hb.tape, hb.output, hb.size, fun b q _ => hb.block b q⟩, fun b e => .inr ?_⟩⟩
  · rcases tb5 b e with rfl | rfl | rfl | rfl | rfl
    · exact hlt hwb
    · exact hlt hpb
    · exact hlt htb
    · exact hlt hvb
    · exact hlt hlb
  · rcases tb5 b e with rfl | rfl | rfl | rfl | rfl <;> assumption
end
theorem alloc5 (w : World) (o0 o1 o2 o3 o4 : Obj) :
    (((((w.alloc o0).alloc o1).alloc o2).alloc o3).alloc o4).heap[w.heap.size]? = some o0 ∧ (((((w.alloc o0).alloc o1).alloc o2).alloc o3).alloc o4).heap[w.heap.size + 1]? = some o1 ∧ (((((w.alloc o0).alloc o1).alloc o2).alloc o3).alloc o4).heap[w.heap.size + 1 + 1]? = some o2 ∧ (((((w.alloc o0).alloc o1).alloc o2).alloc o3).alloc o4).heap[w.heap.size + 1 + 1 + 1]? = some o3 ∧ (((((w.alloc o0).alloc o1).alloc o2).alloc o3).alloc o4).heap[w.heap.size + 1 + 1 + 1 + 1]? = some o4 ∧ Below w.heap.size w (((((w.alloc o0).alloc o1).alloc o2).alloc o3).alloc o4) := by
  refine ⟨?_, ?_, ?_, ?_, ?_, ((((((Below.refl _ _).alloc (Nat.le_refl _) _).alloc (by simp) _).alloc (by simp; omega) _).alloc (by simp; omega) _).alloc (by simp; omega) _)⟩
  · exact (heap_alloc_old _ _ (by simp <;> omega)).trans ((heap_alloc_old _ _ (by simp <;> omega)).trans ((heap_alloc_old _ _ (by simp <;> omega)).trans ((heap_alloc_old _ _ (by simp)).trans (heap_newK' rfl))))
  · exact (heap_alloc_old _ _ (by simp <;> omega)).trans ((heap_alloc_old _ _ (by simp <;> omega)).trans ((heap_alloc_old _ _ (by simp)).trans (heap_newK' (by simp))))
  · exact (heap_alloc_old _ _ (by simp <;> omega)).trans ((heap_alloc_old _ _ (by simp)).trans (heap_newK' (by simp)))
  · exact (heap_alloc_old _ _ (by simp)).trans (heap_newK' (by simp))
  · exact heap_newK' (by simp)
theorem infoPtr : (Try.prog.info? 46).map (fun i => (i.zero, i.size, i.bytes)) = some (some (.pointer none), 1, 8) := by kernel_rfl
theorem infoInt' : (Try.prog.info? 3).map (fun i => (i.zero, i.size, i.bytes)) = some (some (.int .i64 0), 1, 8) := by kernel_rfl
theorem infoEs : (Try.prog.info? 34).map (fun i => (i.zero, i.size, i.bytes)) = some (some (.slice none 0 0), 1, 24) := by kernel_rfl
set_option maxHeartbeats 4000000 in
theorem begun_any (w : World) (n : Nat) (h1 : 1 ≤ n) (h7 : n ≤ 7) :
    Calls Try.prog 6 #[.int .i64 n] w fun e w' => ∃ (tg : Nat → Int) (y : Ly) (prs : Int → Pr En), e = .returned (.pointer (some ⟨y.WB, 0, none⟩)) ∧ WmAt w' n tg y prs k00 ∧ prs = (fun _ => prNew 0 0 []) ∧ Goes (fun _ => 0) tg w w' := by
  have mp : ∀ w, (Instr.makeSlice 30 (.int .i64 ((n : Int) + 1)) (.int .i64 ((n : Int) + 1))).run Try.prog w = .ok (.slice (some ⟨w.heap.size, 0, none⟩) (n + 1) (n + 1)) (w.alloc (.cells (madeCells #[.pointer none] (n + 1)) 46)) := fun w => run_make_row' (P := Try.prog) 30 46 (.pointer none) 8 Try.underlying30 infoPtr rfl .i64 .i64 (n + 1) (by omega) (by omega) w
  have mi : ∀ w, (Instr.makeSlice 31 (.int .i64 ((n : Int) + 1)) (.int .i64 ((n : Int) + 1))).run Try.prog w = .ok (.slice (some ⟨w.heap.size, 0, none⟩) (n + 1) (n + 1)) (w.alloc (.cells (madeCells #[.int .i64 0] (n + 1)) 3)) := fun w => run_make_row' (P := Try.prog) 31 3 (.int .i64 0) 8 Try.underlying31 infoInt' rfl .i64 .i64 (n + 1) (by omega) (by omega) w
  have me : ∀ w, (Instr.makeSlice 32 (.int .i64 ((n : Int) + 1)) (.int .i64 ((n : Int) + 1))).run Try.prog w = .ok (.slice (some ⟨w.heap.size, 0, none⟩) (n + 1) (n + 1)) (w.alloc (.cells (madeCells #[.slice none 0 0] (n + 1)) 34)) := fun w => run_make_row' (P := Try.prog) 32 34 (.slice none 0 0) 24 Try.underlying32 infoEs rfl .i64 .i64 (n + 1) (by omega) (by omega) w
  go_enter Try.func6, Try.ntmps6
  go_upto_region 1 with (fail)
  go_cut [3] (fun v wx => ∃ (WB pb tb vb lb : Nat), v = .pointer (some ⟨WB, 0, none⟩) ∧ WmX (fun t => 1 ≤ t ∧ t ≤ n) wx n (tg0 WB pb tb vb lb) (ly0 WB pb tb vb lb) (fun _ => prNew 0 0 []) k00 ∧ Goes (fun _ => 0) (tg0 WB pb tb vb lb) w wx)
  case first =>
    go_region
    all_goals
      go_wp2_with fail
      go_meet
      refine (fun q => ⟨_, _, _, _, _, rfl, begun_mem h1 h7 q.2.2.2.2.1 (by first | exact q.1 | exact q.2.1 | exact q.2.2.1 | exact q.2.2.2.1) (by first | exact q.1 | exact q.2.1 | exact q.2.2.1 | exact q.2.2.2.1) (by first | exact q.1 | exact q.2.1 | exact q.2.2.1 | exact q.2.2.2.1) (by first | exact q.1 | exact q.2.1 | exact q.2.2.1 | exact q.2.2.2.1) ((Below.refl w.heap.size w).drew.trans q.2.2.2.2.2) (by omega) (by omega) (by omega) (by omega) (by omega) ⟨by omega, by omega, by omega, by omega⟩ ⟨by omega, by omega, by omega⟩ ⟨by omega, by omega⟩ (by omega)⟩) (alloc5 w.drew _ _ _ _ _)
  case rest =>
  obtain ⟨WB, pb, tb, vb, lb, rfl, hW, hG⟩ := hcut
  have hst0 : ∃ (s : Nat) (tg : Nat → Int) (y : Ly) (prs : Int → Pr En), 1 ≤ s ∧ s ≤ n + 1 ∧ (1 : Int) = s ∧ WmX (fun t => (s : Int) ≤ t ∧ t ≤ n) wc n tg y prs k00 ∧ prs = (fun _ => prNew 0 0 []) ∧ Goes (fun _ => 0) tg w wc ∧ y.WB = WB := ⟨1, _, _, _, Nat.le_refl _, by omega, rfl, hW, rfl, hG, rfl⟩
  clear hW hG mp mi me
  go_wp2_with fail
  go_loopw [4] (fun i wr => ∃ (s : Nat) (tg : Nat → Int) (y : Ly) (prs : Int → Pr En), 1 ≤ s ∧ s ≤ n + 1 ∧ i = .int .i64 s ∧ WmX (fun t => (s : Int) ≤ t ∧ t ≤ n) wr n tg y prs k00 ∧ prs = (fun _ => prNew 0 0 []) ∧ Goes (fun _ => 0) tg w wr ∧ y.WB = WB) (fun i _ => (n + 1) - (intOf i).toNat)
  case atStart =>
    obtain ⟨s, tg, y, prs, q1, q2, q3, q4⟩ := hst0
    exact ⟨s, tg, y, prs, q1, q2, by rw [q3], q4⟩
  case round =>
    clear hst0
    obtain ⟨s, tg, y, prs, q1, q2, rfl, hW, hp, hG, hy⟩ := hrel
    by_cases hsn : s ≤ n
    · have d1 : decide ((s : Int) ≤ (n : Int)) = true := decide_eq_true (by omega)
      have hSt := start_any hW (fun t ht => ⟨by omega, by omega⟩) q1 hsn (Int.le_refl 0) (show (0 : Int) ≤ 1099511627776 by decide) (Int.le_refl 0) (show (0 : Int) ≤ (n : Int) by omega) (Nat.zero_le _) (fun e he => by cases he)
      rw [hy] at hSt
      have HP := Lib.hid hp
      have HG := Lib.hid hG
      have HSN := Lib.hid hsn
      clear hW hp hG hsn hy
      go_wp2_with fail
      (with_reducible refine hSt.mono ?_)
      rintro _ w2 ⟨rfl, tg2, y2, hW2, hG2, hy2⟩
      clear hSt
      have HW2 := Lib.hid hW2
      have HY2 := Lib.hid hy2
      have HG2 := Lib.hid (HG.out.trans hG2)
      clear hW2 hG2 hy2
      go_wp2_with fail
      go_roundw
      case rel =>
        have := HSN.out
        refine ⟨s + 1, tg2, y2, _, by omega, by omega, by go_num, HW2.out.to_ _ (fun t ht => ⟨by omega, ht.1.2⟩) (fun h => by omega) (Ag.refl _ _) (fun _ _ _ => rfl) HW2.out.lt, ?_, HG2.out, HY2.out⟩
        rw [HP.out]
        funext p
        unfold setAt
        split <;> rfl
      case measure => have := HSN.out; simp [intOf]; omega
    · have d1 : decide ((s : Int) ≤ (n : Int)) = false := decide_eq_false (by omega)
      have HW := Lib.hid hW
      have HP := Lib.hid hp
      have HG := Lib.hid hG
      have HSN := Lib.hid hsn
      have HY := Lib.hid hy
      clear hW hp hG hsn hy
      go_wp2_with fail
      go_ret
      have := HSN.out
      exact ⟨tg, y, prs, (by rw [HY.out]; rfl), HW.out.to_ _ (fun t ht => by omega) (fun h => h) (Ag.refl _ _) (fun _ _ _ => rfl) HW.out.lt, HP.out, HG.out⟩
end Go.Proofs.Ythfofnfkopnbhaa
