/- A loop over a function that keeps state of its own in cells: its contract, and the law of the loop. No program. -/
import Derived.RangeFuncNested
import Derived.RangeFuncBound
import Derived.RangeFuncCalls
import Derived.RangeFuncLeaves
import Derived.WalkKit
import Derived.OwnWalkIn
namespace Go.Proofs.Ythfofnfkopnbhaa
open Go.RowKit
set_option linter.unusedVariables false
set_option maxRecDepth 100000

/-- What K holds of lies as it lay. -/
structure Ag (K : Nat → Prop) (W W' : World) : Prop where
  os : W'.os = W.os
  tape : W'.tape = W.tape
  output : W'.output = W.output
  size : W.heap.size ≤ W'.heap.size
  block : ∀ k, k < W.heap.size → K k → W'.heap[k]? = W.heap[k]?
theorem Ag.refl (K : Nat → Prop) (W : World) : Ag K W W := ⟨rfl, rfl, rfl, Nat.le_refl _, fun _ _ _ => rfl⟩
theorem Ag.trans {K : Nat → Prop} {A B C : World} (h : Ag K A B) (k : Ag K B C) : Ag K A C :=
  ⟨k.os.trans h.os, k.tape.trans h.tape, k.output.trans h.output, Nat.le_trans h.size k.size, fun i hi hK => (k.block i (Nat.lt_of_lt_of_le hi h.size) hK).trans (h.block i hi hK)⟩
theorem Ag.mono {K K' : Nat → Prop} {A B : World} (h : Ag K A B) (hK : ∀ k, k < A.heap.size → K' k → K k) : Ag K' A B := ⟨h.os, h.tape, h.output, h.size, fun i hi hk => h.block i hi (hK i hi hk)⟩
theorem Ag.of_below {A B : World} (K : Nat → Prop) (h : Below A.heap.size A B) : Ag K A B := ⟨h.os, h.tape, h.output, h.size, fun i hi _ => h.block i hi⟩
theorem Ag.drew {K : Nat → Prop} {A B : World} (h : Ag K A B) : Ag K A B.drew := ⟨h.os, h.tape, h.output, h.size, h.block⟩
theorem Ag.alloc {K : Nat → Prop} {A B : World} (h : Ag K A B) (o : Obj) : Ag K A (B.alloc o) := h.trans (Ag.of_below K ((Below.refl _ _).alloc (Nat.le_refl _) o))
theorem Ag.setCell {K : Nat → Prop} {A B : World} (h : Ag K A B) {p : Addr} (hp : p.block < A.heap.size → ¬ K p.block) (u : Value) : Ag K A (B.setCell p u) :=
  ⟨h.os, h.tape, h.output, by simpa [World.setCell] using h.size, fun i hi hk => (Below.heap_setCell B p u i (fun e => hp (by rw [← e]; exact hi) (by rw [← e]; exact hk))).trans (h.block i hi hk)⟩
theorem Ag.putObj (W : World) (l : Nat) (o : Obj) : Ag (fun k => k ≠ l) W (W.putObj l o) :=
  let hg := grownBy_putObj' W l o
  ⟨hg.os, hg.tape, hg.output, hg.size, fun i hi hk => hg.block i hi (fun e => hk (by injection e))⟩
theorem Ag.grown {K : Nat → Prop} {A B C : World} {row : Option Nat} (h : Ag K A B) (hg : B.grownBy C row) (hr : ∀ r, row = some r → r < A.heap.size → ¬ K r) : Ag K A C :=
  ⟨hg.os.trans h.os, hg.tape.trans h.tape, hg.output.trans h.output, Nat.le_trans h.size hg.size, fun i hi hk => (hg.block i (Nat.lt_of_lt_of_le hi h.size) (fun e => hr i e.symm hi hk)).trans (h.block i hi hk)⟩
theorem Ag.below {K : Nat → Prop} {A B : World} {n : Nat} (h : Ag K A B) (hn : n ≤ A.heap.size) (hk : ∀ k, k < n → K k) : Below n A B := ⟨h.os, h.tape, h.output, h.size, fun i hi => h.block i (Nat.lt_of_lt_of_le hi hn) (hk i hi)⟩

/-- What is promised of a function that is ranged over: it turns blocks of R alone, and those that it made. -/
def SeqC {α : Type} (F : Fence) (n : Nat) (P : Program) (g : Nat) (lb : Array Value) (encs : α → Array Value) (R Ks : Nat → Prop) (S Sp : List α → Prop) (N : Nat) (w : World) : Prop :=
  ∀ (l : Nat) (J Jx : List α → World → Prop) (W : World), Below w.heap.size w W →
    (∀ pre x W0 W1, J pre W0 → Ag (fun k => ¬ R k) W0 W1 → pre.length < N → YieldAt F (n - 1) P l (encs x) W1 fun e W' =>
      (e = .returned (.bool true) ∧ J (pre ++ [x]) W' ∧ Ag (fun k => Ks k ∨ W0.heap.size ≤ k) W1 W') ∨ (e = .returned (.bool false) ∧ Jx (pre ++ [x]) W')) →
    J [] W →
    CallsIn F n P g (#[.func (.yield l) #[] #[]] ++ lb) W fun e W' => (∃ v, e = .returned v) ∧
      ((∃ xs W0, S xs ∧ J xs W0 ∧ Ag (fun k => ¬ R k) W0 W') ∨ (∃ pre W0, Sp pre ∧ Jx pre W0 ∧ Ag (fun k => ¬ R k) W0 W'))

/-- How the body of a round may be left. -/
def postC {α σ : Type} (own : σ → Nat → Prop) (I : List α → σ → World → Prop) (Ix : Code → List α → σ → World → Prop) (xs : List α) (s : σ) (W : World) : Exit → Act → World → Prop
  | .normal, _, W' => ∃ s', Ag (fun k => ¬ own s k) W W' ∧ I xs s' W'
  | .ret, _, W' => ∃ s', Ag (fun k => ¬ own s k) W W' ∧ Ix .ret xs s' W'
  | .exit id, _, W' => ∃ s', Ag (fun k => ¬ own s k) W W' ∧ Ix (.exit id) xs s' W'
  | .goto t, _, W' => ∃ s', Ag (fun k => ¬ own s k) W W' ∧ Ix (.goto t) xs s' W'
  | .panic _, _, _ => False
  | .outgrown, _, _ => False

theorem ne_of_cells {W : World} {b l : Nat} {cs : Array Value} {t : TypeId} {f : Nat × Nat} {o : Obj} (h : W.heap[b]? = some (.cells cs t f)) (ho : W.heap[l]? = some o) (hc : o.isCells = false) : b ≠ l := by
  rintro rfl
  rw [h] at ho
  injection ho with ho
  subst ho
  cases hc

theorem wpIn_rangeFunc_C {F : Fence} {n : Nat} {P : Program} {α σ : Type} {g : Operand} {ps : Array Tmp} {assign body : Code} {Q : Exit → Act → World → Prop} {a : Act} {w : World}
    (hro : F.round = none) (h1 : 1 ≤ n) {gf : Nat} {lb : Array Value} (hg : a.eval g = .func (.func gf) #[] lb) (hFg : F.fn gf) (eg : ∀ args w, (callFunc gf args).run P w = .ok (.enter gf args) w)
    {encs : α → Array Value} {R Ks : Nat → Prop} {S Sp : List α → Prop} {N : Nat} {w0 : World} (hseq : SeqC F (n - 1) P gf lb encs R Ks S Sp N w0) (hb0 : Below w0.heap.size w0 w) (hps : ∀ x, (encs x).size = ps.size)
    (hR : ∀ k, R k → k < w.heap.size) (hKs : ∀ k, Ks k → k < w.heap.size)
    (own : σ → Nat → Prop) (I : List α → σ → World → Prop) (Ix : Code → List α → σ → World → Prop)
    (hI : ∀ pre s W W', I pre s W → Ag (fun k => own s k ∨ (k < w.heap.size ∧ ¬ R k)) W W' → I pre s W')
    (hIx : ∀ c pre s W W', Ix c pre s W → Ag (fun k => own s k ∨ (k < w.heap.size ∧ ¬ R k)) W W' → Ix c pre s W')
    (hown : ∀ pre s W b, I pre s W → own s b → ¬ R b ∧ ¬ Ks b ∧ ∃ cs t f, W.heap[b]? = some (.cells cs t f))
    (hownx : ∀ c pre s W b, Ix c pre s W → own s b → ¬ R b ∧ ∃ cs t f, W.heap[b]? = some (.cells cs t f))
    (s0 : σ) (h0 : I [] s0 w)
    (hround : ∀ (l : Nat) (pre : List α) (s : σ) (x : α) (W : World), w.heap.size ≤ l → (∃ r, W.heap[l]? = some (.loop r)) → I pre s W → pre.length < N →
      assign.wpIn (F.inRound l) (n - 1 - 1) P (Exit.then (fun a' Wa => Ag (fun _ => True) W Wa ∧ ∀ Wb, Ag (fun k => k ≠ l) Wa Wb → (∃ r, Wb.heap[l]? = some (.loop r)) → body.wpIn (F.inRound l) (n - 1 - 1) P (postC own I Ix (pre ++ [x]) s Wb) a' Wb) (fun _ _ _ => False))
        { tmps := (ps.zip (encs x)).foldl (fun t (p, v) => t.setIfInBounds p v) a.tmps, defers := [] } W)
    (hdone : ∀ (D : Nat) (xs : List α) (s : σ) (W : World), w.heap.size ≤ D → S xs → I xs s W → W.heap[D]? = some (.deferred (some [])) → Q .normal { a with defers := { target := .collected D, args := #[] } :: a.defers } W)
    (hstop : ∀ (D : Nat) (c : Code) (pre : List α) (s : σ) (W : World), w.heap.size ≤ D → Sp pre → Ix c pre s W → W.heap[D]? = some (.deferred (some [])) → c.wpIn F n P Q { a with defers := { target := .collected D, args := #[] } :: a.defers } W) :
    (Code.rangeFunc g ps assign body).wpIn F n P Q a w := by
  refine wpIn_rangeFunc ?_
  intro fn hfn
  rw [hro]
  obtain ⟨rec, hrec⟩ : ∃ rec : LoopState → Option Code → Loop, rec = fun st pe => { state := st, pending := pe, fn, tmps := a.tmps, params := ps, assign, body, defers := w.heap.size } := ⟨_, rfl⟩
  obtain ⟨W1, hW1⟩ : ∃ W1, (w.alloc (.deferred (some []))).alloc (.loop (rec .ready none)) = W1 := ⟨_, rfl⟩
  have hL1 : W1.heap[w.heap.size + 1]? = some (.loop (rec .ready none)) := by
    rw [← hW1]; have := World.alloc_heap_new (w.alloc (.deferred (some []))) (.loop (rec .ready none)); rwa [World.size_alloc] at this
  have hK1 : W1.heap[w.heap.size]? = some (.deferred (some [])) := by
    rw [← hW1]; exact (Below.heap_alloc _ _ _ (by simp)).trans (World.alloc_heap_new w _)
  have hbw1 : Below w.heap.size w W1 := by rw [← hW1]; exact ((Below.refl _ w).alloc (Nat.le_refl _) _).alloc (by simp) _
  have hI1 : I [] s0 W1 := hI _ _ _ _ h0 (Ag.of_below _ hbw1)
  have hb1 : Below w0.heap.size w0 W1 := hb0.trans (hbw1.mono hb0.size)
  refine ⟨w.heap.size + 1, [{ target := .collected w.heap.size, args := #[] }], W1, { target := .fn (.func gf) lb, args := #[.func (.yield (w.heap.size + 1)) #[] #[]] }, W1, gf,
    #[.func (.yield (w.heap.size + 1)) #[] #[]] ++ lb, W1, ?_, ?_, ?_, ?_, fun _ => h1, ?_⟩
  · rw [← hW1, hrec]; exact run_enterLoop_outer _ _ _ _ _
  · simp only [resolve, hg]
    simp [go_sem]
  · intro f' hf'; simp [Target.leads] at hf'; subst hf'; exact hFg
  · simp [invoke, go_sem, eg]
  · refine (hseq (w.heap.size + 1)
      (fun pre W => ∃ s, I pre s W ∧ W.heap[w.heap.size + 1]? = some (.loop (rec .ready none)) ∧ W.heap[w.heap.size]? = some (.deferred (some [])))
      (fun pre W => ∃ c s, Ix c pre s W ∧ W.heap[w.heap.size + 1]? = some (.loop (rec .done (some c))) ∧ W.heap[w.heap.size]? = some (.deferred (some [])))
      W1 hb1 ?_ ⟨s0, hI1, hL1, hK1⟩).mono ?_
    · rintro pre x W0 W ⟨s, hi0, hl0, hk0⟩ hag hlen
      have hlt0 : w.heap.size + 1 < W0.heap.size := (Array.getElem?_eq_some_iff.1 hl0).1
      have hl : W.heap[w.heap.size + 1]? = some (.loop (rec .ready none)) := (hag.block _ hlt0 (fun h => by have := hR _ h; omega)).trans hl0
      have hk : W.heap[w.heap.size]? = some (.deferred (some [])) := (hag.block _ (by omega) (fun h => by have := hR _ h; omega)).trans hk0
      have hi : I pre s W := hI _ _ _ _ hi0 (hag.mono (fun k _ h => by
        rcases h with h | h
        · exact (hown _ _ _ _ hi0 h).1
        · exact h.2))
      have hlt : w.heap.size + 1 < W.heap.size := (Array.getElem?_eq_some_iff.1 hl).1
      have hy := run_yield (P := P) (args := encs x) hl (by rw [hrec]; exact hps x)
      rw [hrec] at hy
      refine ⟨fn, _, assign, body, hy, roundIn_of_wpIn hfn (wpIn_mono (hround _ pre s x W (by omega) ⟨_, hl⟩ hi hlen) ?_)⟩
      clear hy
      intro e a' Wa hp
      cases e with
      | normal =>
        obtain ⟨hga, hb⟩ := hp
        have hla := (hga.block _ hlt trivial).trans hl
        have hka := (hga.block _ (by omega) trivial).trans hk
        have hlta : w.heap.size + 1 < Wa.heap.size := (Array.getElem?_eq_some_iff.1 hla).1
        refine ⟨_, run_beginRound hla (by rw [hrec]), ?_⟩
        obtain ⟨Wb, hWb⟩ : ∃ Wb, Wa.putObj (w.heap.size + 1) (.loop { rec .ready none with state := .busy }) = Wb := ⟨_, rfl⟩
        have hgb : Ag (fun k => k ≠ w.heap.size + 1) Wa Wb := by rw [← hWb]; exact Ag.putObj _ _ _
        have hl2 : Wb.heap[w.heap.size + 1]? = some (.loop { rec .ready none with state := .busy }) := by rw [← hWb]; exact World.putObj_heap_same hlta
        have hk2 : Wb.heap[w.heap.size]? = some (.deferred (some [])) := (hgb.block _ (by omega) (by omega)).trans hka
        have hia : I pre s Wa := hI _ _ _ _ hi (hga.mono (fun _ _ _ => trivial))
        have hne : ∀ k, own s k → k ≠ w.heap.size + 1 := fun k h => by
          obtain ⟨_, _, cs, t, f, hc⟩ := hown _ _ _ _ hia h
          exact ne_of_cells hc hla rfl
        have hib : I pre s Wb := hI _ _ _ _ hia (hgb.mono (fun k _ h => by
          rcases h with h | h
          · exact hne k h
          · have := h.1; omega))
        have hsz : W.heap.size ≤ Wb.heap.size := Nat.le_trans hga.size hgb.size
        have hob : ∀ k, own s k → k < W0.heap.size := fun k h => by
          obtain ⟨_, _, cs, t, f, hc⟩ := hown _ _ _ _ hi0 h
          exact (Array.getElem?_eq_some_iff.1 hc).1
        have hkn : ¬ own s (w.heap.size) := fun h => by
          obtain ⟨_, _, cs, t, f, hc⟩ := hown _ _ _ _ hib h
          exact ne_of_cells hc hk2 rfl rfl
        have hln : ¬ own s (w.heap.size + 1) := fun h => hne _ h rfl
        rw [hWb]
        refine wpIn_mono (hb Wb hgb ⟨_, hl2⟩) ?_
        have fin : ∀ (jump : Option Code) (W3 : World), Ag (fun k => ¬ own s k) Wb W3 →
            (Instr.endRound (w.heap.size + 1) jump).run P W3 = .ok (.bool jump.isNone) (W3.putObj (w.heap.size + 1) (.loop (rec (if jump.isNone then .ready else .done) jump))) ∧
            W3.heap[w.heap.size + 1]? = some (.loop { rec .ready none with state := .busy }) ∧
            (W3.putObj (w.heap.size + 1) (.loop (rec (if jump.isNone then .ready else .done) jump))).heap[w.heap.size + 1]? = some (.loop (rec (if jump.isNone then .ready else .done) jump)) ∧
            (W3.putObj (w.heap.size + 1) (.loop (rec (if jump.isNone then .ready else .done) jump))).heap[w.heap.size]? = some (.deferred (some [])) := fun jump W3 hk3 => by
          have hl3 := (hk3.block _ (by omega) hln).trans hl2
          have := run_endRound (P := P) jump hl3
          rw [hrec] at this ⊢
          exact ⟨this, by rw [hrec] at hl3; exact hl3, World.putObj_heap_same (Array.getElem?_eq_some_iff.1 hl3).1, (World.putObj_heap_other (by omega)).trans ((hk3.block _ (by omega) hkn).trans hk2)⟩
        have put : ∀ (W3 : World) (o : Obj), W3.heap[w.heap.size + 1]? = some (.loop { rec .ready none with state := .busy }) → ∀ s', (∀ b, own s' b → ∃ cs t f, W3.heap[b]? = some (.cells cs t f)) → Ag (fun k => own s' k ∨ (k < w.heap.size ∧ ¬ R k)) W3 (W3.putObj (w.heap.size + 1) o) := fun W3 o hl3 s' hc => (Ag.putObj _ _ _).mono (fun k _ h => by
          rcases h with h | h
          · obtain ⟨cs, t, f, hc⟩ := hc k h
            exact ne_of_cells hc hl3 rfl
          · have := h.1; omega)
        rintro e a3 W3 hp
        cases e with
        | normal =>
          obtain ⟨s', hk3, hi3⟩ := hp
          obtain ⟨hr, hl3, hl4, hk4⟩ := fin none W3 hk3
          refine ⟨_, _, hr, .inl ⟨rfl, ⟨s', hI _ _ _ _ hi3 (put W3 _ hl3 s' (fun b h => (hown _ _ _ _ hi3 h).2.2)), hl4, hk4⟩, ?_⟩⟩
          have hK : ∀ k, k < W.heap.size → (Ks k ∨ W0.heap.size ≤ k) → k ≠ w.heap.size + 1 ∧ ¬ own s k := fun k hk h => by
            rcases h with h | h
            · exact ⟨by have := hKs k h; omega, fun ho => (hown _ _ _ _ hi0 ho).2.1 h⟩
            · exact ⟨by omega, fun ho => by have := hob k ho; omega⟩
          refine ⟨?_, ?_, ?_, ?_, fun k hk h => ?_⟩
          · exact (Ag.putObj W3 (w.heap.size + 1) _).os.trans (hk3.os.trans (hgb.os.trans hga.os))
          · exact (Ag.putObj W3 (w.heap.size + 1) _).tape.trans (hk3.tape.trans (hgb.tape.trans hga.tape))
          · exact (Ag.putObj W3 (w.heap.size + 1) _).output.trans (hk3.output.trans (hgb.output.trans hga.output))
          · exact Nat.le_trans (Nat.le_trans hsz hk3.size) (Ag.putObj W3 (w.heap.size + 1) _).size
          · obtain ⟨n1, n2⟩ := hK k hk h
            have hka' : k < Wa.heap.size := Nat.lt_of_lt_of_le hk hga.size
            have hkb' : k < Wb.heap.size := Nat.lt_of_lt_of_le hk hsz
            exact ((Ag.putObj W3 (w.heap.size + 1) _).block k (Nat.lt_of_lt_of_le hkb' hk3.size) n1).trans ((hk3.block k hkb' n2).trans ((hgb.block k hka' n1).trans (hga.block k hk trivial)))
        | ret =>
          obtain ⟨s', hk3, hi3⟩ := hp
          obtain ⟨hr, hl3, hl4, hk4⟩ := fin (some .ret) W3 hk3
          exact ⟨_, _, hr, .inr ⟨rfl, .ret, s', hIx _ _ _ _ _ hi3 (put W3 _ hl3 s' (fun b h => (hownx _ _ _ _ _ hi3 h).2)), hl4, hk4⟩⟩
        | exit id =>
          obtain ⟨s', hk3, hi3⟩ := hp
          obtain ⟨hr, hl3, hl4, hk4⟩ := fin (some (.exit id)) W3 hk3
          exact ⟨_, _, hr, .inr ⟨rfl, .exit id, s', hIx _ _ _ _ _ hi3 (put W3 _ hl3 s' (fun b h => (hownx _ _ _ _ _ hi3 h).2)), hl4, hk4⟩⟩
        | goto t =>
          obtain ⟨s', hk3, hi3⟩ := hp
          obtain ⟨hr, hl3, hl4, hk4⟩ := fin (some (.goto t)) W3 hk3
          exact ⟨_, _, hr, .inr ⟨rfl, .goto t, s', hIx _ _ _ _ _ hi3 (put W3 _ hl3 s' (fun b h => (hownx _ _ _ _ _ hi3 h).2)), hl4, hk4⟩⟩
        | panic ch => exact hp.elim
        | outgrown => exact hp.elim
      | ret => exact hp.elim
      | exit id => exact hp.elim
      | goto t => exact hp.elim
      | panic ch => exact hp.elim
      | outgrown => exact hp.elim
    · have agI : ∀ {W0 W2 : World} {s : σ}, (∀ b, own s b → ¬ R b) → Ag (fun k => ¬ R k) W0 W2 → Ag (fun k => own s k ∨ (k < w.heap.size ∧ ¬ R k)) W0 W2 := fun hs h => h.mono (fun k _ h => by
        rcases h with h | h
        · exact hs k h
        · exact h.2)
      have put : ∀ (W3 : World) (o : Obj) (r : Loop), W3.heap[w.heap.size + 1]? = some (.loop r) → ∀ s', (∀ b, own s' b → ∃ cs t f, W3.heap[b]? = some (.cells cs t f)) → Ag (fun k => own s' k ∨ (k < w.heap.size ∧ ¬ R k)) W3 (W3.putObj (w.heap.size + 1) o) := fun W3 o r hl3 s' hc => (Ag.putObj _ _ _).mono (fun k _ h => by
        rcases h with h | h
        · obtain ⟨cs, t, f, hc⟩ := hc k h
          exact ne_of_cells hc hl3 rfl
        · have := h.1; omega)
      rintro e W2 ⟨⟨v, rfl⟩, (⟨xs, W0, hS, ⟨s, hi, hl, hk⟩, hag⟩ | ⟨pre, W0, hSp, ⟨c, s, hi, hl, hk⟩, hag⟩)⟩
      · have hlt0 : w.heap.size + 1 < W0.heap.size := (Array.getElem?_eq_some_iff.1 hl).1
        replace hl := (hag.block _ hlt0 (fun h => by have := hR _ h; omega)).trans hl
        replace hk := (hag.block _ (by omega) (fun h => by have := hR _ h; omega)).trans hk
        replace hi := hI _ _ _ _ hi (agI (fun b hb => (hown _ _ _ _ hi hb).1) hag)
        exact ⟨none, _, by have := run_endLoop (P := P) hl (by rw [hrec]; simp); rw [hrec] at this; exact this, hdone _ xs s _ (Nat.le_refl _) hS (hI _ _ _ _ hi (put W2 _ _ hl s (fun b h => (hown _ _ _ _ hi h).2.2))) ((World.putObj_heap_other (by omega)).trans hk)⟩
      · have hlt0 : w.heap.size + 1 < W0.heap.size := (Array.getElem?_eq_some_iff.1 hl).1
        replace hl := (hag.block _ hlt0 (fun h => by have := hR _ h; omega)).trans hl
        replace hk := (hag.block _ (by omega) (fun h => by have := hR _ h; omega)).trans hk
        replace hi := hIx _ _ _ _ _ hi (agI (fun b hb => (hownx _ _ _ _ _ hi hb).1) hag)
        exact ⟨some c, _, by have := run_endLoop (P := P) hl (by rw [hrec]; simp); rw [hrec] at this; exact this, hstop _ c pre s _ (Nat.le_refl _) hSp (hIx _ _ _ _ _ hi (put W2 _ _ hl s (fun b h => (hownx _ _ _ _ _ hi h).2))) ((World.putObj_heap_other (by omega)).trans hk)⟩
end Go.Proofs.Ythfofnfkopnbhaa
