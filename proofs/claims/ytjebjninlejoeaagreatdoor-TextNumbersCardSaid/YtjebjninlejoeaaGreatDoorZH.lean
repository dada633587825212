/- text, the walk: a parser's marks. text, the walk: the parser's state. text, the walk: the parser's rows grow. text, the walk: a line that is no line, an empty line, a mark's line. text, the walk: a mark that was set before; a line of an unknown word. text, the walk: a line that is no mark's. text, the walk: a line's word, looked up. -/
import Derived.Test.YtjebjninlejoeaaGreatDoorZG
namespace Go.Proofs.YtjebjninlejoeaaGreatDoor
open Go.RowKit Go.Maps Go.ChangeMaps
set_option linter.unusedVariables false
set_option linter.unusedSimpArgs false
set_option linter.unusedSectionVars false
set_option maxRecDepth 100000

theorem intTy : Tryz.prog.underlying 55 = some (.map 9 3) := Tryz.underlying55
theorem zeroInt (W : World) : (zeroValue 3).run Tryz.prog W = .ok (.int .i64 0) W := by rfl
theorem exit_any (R : Nat) (w : World) : Calls Tryz.prog 56 #[.pointer (some ⟨R, 0, none⟩)] w fun x w' => x = .returned (.tuple #[]) ∧ w' = w := by
  go_enter Tryz.func56, Tryz.ntmps56
  go_wp2_with fail
  exact bodyPost_end (v := .tuple #[]) (by simp [results, Tryz.results56, go_sem]) rfl ⟨rfl, rfl⟩
theorem mark_len {w : World} {N : Nat} {K : Nat → Prop} {l : List Nm} {n : Int} (h : RowAt w N K l n) (P : Nat) (hl : l.length ≠ 2) : Calls Tryz.prog 67 #[.pointer (some ⟨P, 0, none⟩), .pointer (some ⟨N, 0, none⟩)] w fun x w' => x = .returned (.bool false) ∧ w' = w := by
  obtain ⟨A, c, hb, hr⟩ := h.row
  have c0 := hb.cell 0
  simp only [List.getElem?_cons_zero] at c0
  have d1 : decide ((l.length : Int) = 2) = false := decide_eq_false (by omega)
  have d2 : ¬ (l.length : Int) = 2 := by omega
  clear hl
  go_enter Tryz.func67, Tryz.ntmps67
  go_wp2_with fail
  go_ret
  exact ⟨rfl, rfl⟩
theorem str_ne {a b : Nm} (h : a ≠ b) : (⟨a.toArray⟩ : ByteArray) ≠ ⟨b.toArray⟩ := fun e => h (by injection e with e; injection e)
theorem mark_no {w : World} {N : Nat} {K : Nat → Prop} {a b : Nm} {n : Int} (h : RowAt w N K [a, b] n) (P : Nat) (hm : markT [a, b] = none) : Calls Tryz.prog 67 #[.pointer (some ⟨P, 0, none⟩), .pointer (some ⟨N, 0, none⟩)] w fun x w' => x = .returned (.bool false) ∧ w' = w := by
  obtain ⟨A, c, hb, hr⟩ := h.row
  have hla := (h.ok a (by simp)).2.1
  have c0 := hb.cell 0
  simp only [List.getElem?_cons_zero, List.length_cons, List.length_nil] at c0
  obtain ⟨g, o, rfl, hg, hc⟩ := hr.2 (by simp)
  have e0 := hc 0 a rfl
  have e1 := hc 1 b rfl
  simp only [Nat.add_zero] at e0
  clear hc hr hb
  by_cases hb58 : b = [58]
  · have hA : labelP a = false := by
      subst hb58
      cases ha : labelP a with
      | false => rfl
      | true => simp [markT, ha] at hm
    have hL := label_any a hla w
    rw [hA] at hL
    subst hb58
    clear hm hA
    go_enter Tryz.func67, Tryz.ntmps67
    go_wp2_with fail
    (with_reducible refine hL.mono ?_)
    rintro _ w1 ⟨rfl, rfl⟩
    go_wp2_with fail
    go_ret
    exact ⟨rfl, rfl⟩
  · have hne := str_ne hb58
    clear hm
    go_enter Tryz.func67, Tryz.ntmps67
    go_wp2_with fail
    go_ret
    exact ⟨rfl, rfl⟩
theorem mark_twice {w : World} {N P M : Nat} {K : Nat → Prop} {a : Nm} {n : Int} {A J : Value} {B1 : Option Addr} {m c1 : Nat} {φ : Nm → Option Value} (h : RowAt w N K [a, [58]] n) (hsm : a.length ≤ 1000000) (ha : labelP a = true) (hP : Bk w P 58 [.slice B1 m c1, A, .map (some M), J]) (hM : Mf w M φ) {v : Value} (hφ : φ a = some v) : Calls Tryz.prog 67 #[.pointer (some ⟨P, 0, none⟩), .pointer (some ⟨N, 0, none⟩)] w fun x w' => x = Thrown 121 n ∧ Below w.heap.size w w' := by
  obtain ⟨A', c, hb, hr⟩ := h.row
  have hla := (h.ok a (by simp)).2.1
  have c0 := hb.cell 0
  have c1' := hb.cell 1
  have p0 := hP.cell 0
  have p2 := hP.cell 2
  simp only [List.getElem?_cons_zero, List.getElem?_cons_succ, List.length_cons, List.length_nil] at c0 c1' p0 p2
  obtain ⟨g, o, rfl, hg, hc⟩ := hr.2 (by simp)
  have e0 := hc 0 a rfl
  have e1 := hc 1 [58] rfl
  simp only [Nat.add_zero] at e0
  clear hc hr hb
  have hL := label_any a hla w
  rw [ha] at hL
  have hK2 := (hM.keep (w' := w.drew) rfl).look2 intTy a hsm zeroInt
  unfold nmV at hK2
  rw [hφ] at hK2
  simp only [Option.getD_some, Option.isSome_some] at hK2
  have HT := Lib.hid (throw_any 121 n w.drew)
  clear hφ ha h hP
  go_enter Tryz.func67, Tryz.ntmps67
  go_wp2_with fail
  (with_reducible refine hL.mono ?_)
  rintro _ w1 ⟨rfl, rfl⟩
  go_wp2_with fail
  go_region
  all_goals (go_wp2_with fail; (with_reducible refine HT.out.mono ?_); rintro _ w2 ⟨rfl, rfl⟩; exact ⟨rfl, rfl, Below.drew (Below.refl _ w1)⟩)
theorem mark_new {w : World} {N P M : Nat} {K : Nat → Prop} {a : Nm} {n : Int} {A J : Value} {B1 : Option Addr} {m c1 : Nat} {φ : Nm → Option Value} (h : RowAt w N K [a, [58]] n) (hsm : a.length ≤ 1000000) (ha : labelP a = true) (hP : Bk w P 58 [.slice B1 m c1, A, .map (some M), J]) (hM : Mf w M φ) (hφ : φ a = none) : Calls Tryz.prog 67 #[.pointer (some ⟨P, 0, none⟩), .pointer (some ⟨N, 0, none⟩)] w fun x w' => x = .returned (.bool true) ∧ MapTo M w w' ∧ Mf w' M (upF φ a (.int .i64 m)) := by
  obtain ⟨A', c, hb, hr⟩ := h.row
  have hla := (h.ok a (by simp)).2.1
  have c0 := hb.cell 0
  have c1' := hb.cell 1
  have p0 := hP.cell 0
  have p2 := hP.cell 2
  simp only [List.getElem?_cons_zero, List.getElem?_cons_succ, List.length_cons, List.length_nil] at c0 c1' p0 p2
  obtain ⟨g, o, rfl, hg, hc⟩ := hr.2 (by simp)
  have e0 := hc 0 a rfl
  have e1 := hc 1 [58] rfl
  simp only [Nat.add_zero] at e0
  clear hc hr hb
  have hL := label_any a hla w
  rw [ha] at hL
  have hK2 := (hM.keep (w' := w.drew) rfl).look2 intTy a hsm zeroInt
  unfold nmV at hK2
  rw [hφ] at hK2
  simp only [Option.getD_none, Option.isSome_none] at hK2
  obtain ⟨W', hU, hto, hmf⟩ := (hM.keep (w' := w.drew.drew) rfl).upd intTy a hsm (.int .i64 m)
  unfold nmV at hU
  clear hφ ha h hP
  go_enter Tryz.func67, Tryz.ntmps67
  go_wp2_with fail
  (with_reducible refine hL.mono ?_)
  rintro _ w1 ⟨rfl, rfl⟩
  go_wp2_with fail
  go_region
  all_goals go_wp2_with fail
  all_goals go_region
  all_goals go_wp2_with fail
  all_goals go_ret
  all_goals exact ⟨rfl, ⟨hto.os, hto.tape, hto.output, hto.size, hto.far⟩, hmf⟩
end Go.Proofs.YtjebjninlejoeaaGreatDoor
namespace Go.Proofs.YtjebjninlejoeaaGreatDoor
open Go.RowKit Go.Maps Go.ChangeMaps
set_option linter.unusedVariables false
set_option linter.unusedSimpArgs false
set_option linter.unusedSectionVars false
set_option maxRecDepth 100000

/-- A row of one's own is as it was, where its block is. -/
theorem own_keep {w w' : World} {base size n : Nat} {e : TypeId} {v : Value} {xs : List Value} (h : w.ownsRow base e size v n xs) (hk : ∀ g, v.ownBlock = some g → w'.heap[g]? = w.heap[g]?) : w'.ownsRow base e size v n xs := by
  refine ⟨h.1, ?_⟩
  rcases h.2 with h0 | ⟨g, cap, cur, hv, hb, hc, r⟩
  · exact .inl h0
  · exact .inr ⟨g, cap, cur, hv, hb, (hk g (by rw [hv]; rfl)).trans hc, r⟩
def outC (l : List IV) : List Value := l.flatMap ivV
def jmC (l : List Jmp) : List Value := l.flatMap fun j => [.int .i64 j.at_, .int .i64 j.line, .string ⟨j.to.toArray⟩]
theorem outC_len (l : List IV) : (outC l).length = l.length * 8 := by
  induction l with
  | nil => rfl
  | cons i l ih => simp only [outC, List.flatMap_cons, List.length_append, List.length_cons] at ih ⊢; rw [ih]; simp [ivV]; omega
theorem jmC_len (l : List Jmp) : (jmC l).length = l.length * 3 := by
  induction l with
  | nil => rfl
  | cons i l ih => simp only [jmC, List.flatMap_cons, List.length_append, List.length_cons] at ih ⊢; rw [ih]; simp; omega
theorem outC_push (l : List IV) (i : IV) : outC (l ++ [i]) = outC l ++ ivV i := by simp [outC]
theorem jmC_push (l : List Jmp) (j : Jmp) : jmC (l ++ [j]) = jmC l ++ [.int .i64 j.at_, .int .i64 j.line, .string ⟨j.to.toArray⟩] := by simp [jmC]
theorem hasM_push (l : List (Nm × Nat)) (a : Nm) (k : Nat) (h : hasM l a = none) (s : Nm) : hasM (l ++ [(a, k)]) s = if s = a then some k else hasM l s := by
  unfold hasM at h ⊢
  rw [List.find?_append]
  by_cases hs : s = a
  · subst hs
    have h0 : l.find? (fun p => decide (p.1 = s)) = none := by simpa using h
    rw [h0]; simp
  · rw [if_neg hs]
    have : [(a, k)].find? (fun p => decide (p.1 = s)) = none := by simp [show ¬ a = s from fun e => hs e.symm]
    rw [this, Option.or_none]
/-- The parser in block P at a plain state; its own blocks are of B and above. -/
structure PsAt (w : World) (B P Wm M : Nat) (st : PS) (vo vj : Value) : Prop where
  bk : Bk w P 58 [vo, .map (some Wm), .map (some M), vj]
  out : w.ownsRow B 40 8 vo st.out.length (outC st.out)
  jumps : w.ownsRow B 129 3 vj st.jumps.length (jmC st.jumps)
  ways : Mf w Wm (fun s => (wayP s).map kV)
  marks : Mf w M (fun s => (hasM st.marks s).map fun k => .int .i64 (k : Nat))
  lo : B ≤ P ∧ B ≤ Wm ∧ B ≤ M
  ne : P ≠ Wm ∧ P ≠ M ∧ Wm ≠ M
  no : ∀ g, vo.ownBlock = some g → g ≠ P ∧ g ≠ Wm ∧ g ≠ M ∧ vj.ownBlock ≠ some g
  nj : ∀ g, vj.ownBlock = some g → g ≠ P ∧ g ≠ Wm ∧ g ≠ M
/-- The blocks that are the parser's. -/
def Own (P Wm M : Nat) (vo vj : Value) (b : Nat) : Prop := b = P ∨ b = Wm ∨ b = M ∨ vo.ownBlock = some b ∨ vj.ownBlock = some b
theorem PsAt.keep {w w' : World} {B P Wm M : Nat} {st : PS} {vo vj : Value} (h : PsAt w B P Wm M st vo vj) (hk : ∀ b, b < w.heap.size → Own P Wm M vo vj b → w'.heap[b]? = w.heap[b]?) : PsAt w' B P Wm M st vo vj :=
  ⟨(hk P h.bk.lt (.inl rfl)).trans h.bk, own_keep h.out fun g hg => hk g (h.out.lt g hg).2 (.inr (.inr (.inr (.inl hg)))), own_keep h.jumps fun g hg => hk g (h.jumps.lt g hg).2 (.inr (.inr (.inr (.inr hg)))), h.ways.keep (hk Wm h.ways.lt (.inr (.inl rfl))), h.marks.keep (hk M h.marks.lt (.inr (.inr (.inl rfl)))), h.lo, h.ne, h.no, h.nj⟩
theorem PsAt.below {w w' : World} {B P Wm M : Nat} {st : PS} {vo vj : Value} (h : PsAt w B P Wm M st vo vj) (hb : Below w.heap.size w w') : PsAt w' B P Wm M st vo vj := h.keep fun b hl _ => hb.block b hl
theorem PsAt.lt {w : World} {B P Wm M : Nat} {st : PS} {vo vj : Value} (h : PsAt w B P Wm M st vo vj) {b : Nat} (hb : Own P Wm M vo vj b) : B ≤ b ∧ b < w.heap.size := by
  rcases hb with rfl | rfl | rfl | hb | hb
  · exact ⟨h.lo.1, h.bk.lt⟩
  · exact ⟨h.lo.2.1, h.ways.lt⟩
  · exact ⟨h.lo.2.2, h.marks.lt⟩
  · exact h.out.lt b hb
  · exact h.jumps.lt b hb
/-- A mark is set. -/
theorem PsAt.marked {w w' : World} {B P Wm M : Nat} {st : PS} {vo vj : Value} (h : PsAt w B P Wm M st vo vj) {a : Nm} (hn : hasM st.marks a = none) (k : Nat) (ht : MapTo M w w') (hm : Mf w' M (upF (fun s => (hasM st.marks s).map fun k => .int .i64 (k : Nat)) a (.int .i64 (k : Nat)))) : PsAt w' B P Wm M { st with marks := st.marks ++ [(a, k)] } vo vj := by
  obtain ⟨n1, n2, n3⟩ := h.ne
  refine ⟨(ht.far P n2).trans h.bk, own_keep h.out fun g hg => ht.far g (h.no g hg).2.2.1, own_keep h.jumps fun g hg => ht.far g (h.nj g hg).2.2, h.ways.keep (ht.far Wm n3), ?_, h.lo, h.ne, h.no, h.nj⟩
  have e : (fun s => (hasM (st.marks ++ [(a, k)]) s).map fun k => Value.int .i64 (k : Nat)) = upF (fun s => (hasM st.marks s).map fun k => .int .i64 (k : Nat)) a (.int .i64 (k : Nat)) := by
    funext s
    rw [hasM_push _ _ _ hn, upF]
    split <;> rfl
  rw [show ({ st with marks := st.marks ++ [(a, k)] } : PS).marks = st.marks ++ [(a, k)] from rfl, e]
  exact hm
end Go.Proofs.YtjebjninlejoeaaGreatDoor
namespace Go.Proofs.YtjebjninlejoeaaGreatDoor
open Go.RowKit Go.Maps Go.ChangeMaps
set_option linter.unusedVariables false
set_option linter.unusedSimpArgs false
set_option linter.unusedSectionVars false
set_option maxRecDepth 100000

theorem own_type {w : World} {base size n g : Nat} {e : TypeId} {v : Value} {xs : List Value} (h : w.ownsRow base e size v n xs) (hg : v.ownBlock = some g) : ∃ cur, w.heap[g]? = some (.cells cur e (0, 0)) := by
  rcases h.2 with ⟨rfl, -⟩ | ⟨g', cap, cur, rfl, hb, hc, r⟩
  · cases hg
  · cases hg
    exact ⟨cur, hc⟩
theorem own_ne_bk {w : World} {base size n g P : Nat} {e t : TypeId} {v : Value} {xs cs : List Value} (h : w.ownsRow base e size v n xs) (hg : v.ownBlock = some g) (hb : Bk w P t cs) (ht : t ≠ e) : g ≠ P := by
  rintro rfl
  obtain ⟨cur, hc⟩ := own_type h hg
  have hb : w.heap[g]? = _ := hb
  rw [hc] at hb
  injection hb with hb
  injection hb with _ hb
  exact ht hb.symm
theorem own_ne_mf {w : World} {base size n g m : Nat} {e : TypeId} {v : Value} {xs : List Value} {φ : Nm → Option Value} (h : w.ownsRow base e size v n xs) (hg : v.ownBlock = some g) (hm : Mf w m φ) : g ≠ m := by
  rintro rfl
  obtain ⟨cur, hc⟩ := own_type h hg
  obtain ⟨L, ⟨es, ck, h1, _⟩, _⟩ := hm
  rw [hc] at h1
  cases h1
theorem own_ne_own {w : World} {base base' size size' n n' g : Nat} {e e' : TypeId} {v v' : Value} {xs xs' : List Value} (h : w.ownsRow base e size v n xs) (hg : v.ownBlock = some g) (h' : w.ownsRow base' e' size' v' n' xs') (ht : e ≠ e') : v'.ownBlock ≠ some g := by
  intro hg'
  obtain ⟨cur, hc⟩ := own_type h hg
  obtain ⟨cur', hc'⟩ := own_type h' hg'
  rw [hc] at hc'
  injection hc' with hc'
  injection hc' with _ hc'
  exact ht hc'
theorem own_set {w : World} {base size n : Nat} {e : TypeId} {v u : Value} {xs : List Value} {p : Addr} (h : w.ownsRow base e size v n xs) (hp : ∀ g, v.ownBlock = some g → g ≠ p.block) : (w.setCell p u).ownsRow base e size v n xs :=
  own_keep h fun g hg => Below.heap_setCell w p u g (hp g hg)
/-- An instruction is appended. -/
theorem PsAt.outed {w w1 : World} {B P Wm M : Nat} {st : PS} {vo vj vo' : Value} (h : PsAt w B P Wm M st vo vj) (i : IV) (ho : w1.ownsRow B 40 8 vo' (st.out.length + 1) (outC st.out ++ ivV i)) (hg : w.grownBy w1 vo.ownBlock) : PsAt (w1.setCell ⟨P, 0, none⟩ vo') B P Wm M { st with out := st.out ++ [i] } vo' vj := by
  have sep : ∀ b, (∀ g, vo.ownBlock = some g → g ≠ b) → some b ≠ vo.ownBlock := fun b hb e => hb b e.symm rfl
  have hb1 : Bk w1 P 58 [vo, .map (some Wm), .map (some M), vj] := (hg.block P h.bk.lt (sep P fun g q => (h.no g q).1)).trans h.bk
  have hw1 := h.ways.keep (hg.block Wm h.ways.lt (sep Wm fun g q => (h.no g q).2.1))
  have hm1 := h.marks.keep (hg.block M h.marks.lt (sep M fun g q => (h.no g q).2.2.1))
  have hj1 := own_keep h.jumps fun g q => hg.block g (h.jumps.lt g q).2 (sep g fun g' q' e => by subst e; exact (h.no g' q').2.2.2 q)
  have n1 : ∀ g, vo'.ownBlock = some g → g ≠ P := fun g q => own_ne_bk ho q hb1 (by decide)
  have n2 : ∀ g, vj.ownBlock = some g → g ≠ P := fun g q => own_ne_bk hj1 q hb1 (by decide)
  refine ⟨hb1.set 0 vo', ?_, own_set hj1 n2, hw1.keep (Below.heap_setCell w1 _ _ Wm (fun e => h.ne.1 e.symm)), hm1.keep (Below.heap_setCell w1 _ _ M (fun e => h.ne.2.1 e.symm)), h.lo, h.ne, fun g q => ⟨n1 g q, own_ne_mf ho q hw1, own_ne_mf ho q hm1, own_ne_own ho q hj1 (by decide)⟩, h.nj⟩
  have := own_set (u := vo') (p := ⟨P, 0, none⟩) ho n1
  rw [show ({ st with out := st.out ++ [i] } : PS).out = st.out ++ [i] from rfl, outC_push, List.length_append]
  exact this
/-- A jump is appended. -/
theorem PsAt.jumped {w w1 : World} {B P Wm M : Nat} {st : PS} {vo vj vj' : Value} (h : PsAt w B P Wm M st vo vj) (j : Jmp) (ho : w1.ownsRow B 129 3 vj' (st.jumps.length + 1) (jmC st.jumps ++ [.int .i64 j.at_, .int .i64 j.line, .string ⟨j.to.toArray⟩])) (hg : w.grownBy w1 vj.ownBlock) : PsAt (w1.setCell ⟨P, 3, none⟩ vj') B P Wm M { st with jumps := st.jumps ++ [j] } vo vj' := by
  have sep : ∀ b, (∀ g, vj.ownBlock = some g → g ≠ b) → some b ≠ vj.ownBlock := fun b hb e => hb b e.symm rfl
  have hb1 : Bk w1 P 58 [vo, .map (some Wm), .map (some M), vj] := (hg.block P h.bk.lt (sep P fun g q => (h.nj g q).1)).trans h.bk
  have hw1 := h.ways.keep (hg.block Wm h.ways.lt (sep Wm fun g q => (h.nj g q).2.1))
  have hm1 := h.marks.keep (hg.block M h.marks.lt (sep M fun g q => (h.nj g q).2.2))
  have ho1 := own_keep h.out fun g q => hg.block g (h.out.lt g q).2 (fun e => (h.no g q).2.2.2 e.symm)
  have n1 : ∀ g, vj'.ownBlock = some g → g ≠ P := fun g q => own_ne_bk ho q hb1 (by decide)
  have n2 : ∀ g, vo.ownBlock = some g → g ≠ P := fun g q => own_ne_bk ho1 q hb1 (by decide)
  refine ⟨hb1.set 3 vj', own_set ho1 n2, ?_, hw1.keep (Below.heap_setCell w1 _ _ Wm (fun e => h.ne.1 e.symm)), hm1.keep (Below.heap_setCell w1 _ _ M (fun e => h.ne.2.1 e.symm)), h.lo, h.ne, fun g q => ⟨(h.no g q).1, (h.no g q).2.1, (h.no g q).2.2.1, own_ne_own ho1 q ho (by decide)⟩, fun g q => ⟨n1 g q, own_ne_mf ho q hw1, own_ne_mf ho q hm1⟩⟩
  have := own_set (u := vj') (p := ⟨P, 3, none⟩) ho n1
  rw [show ({ st with jumps := st.jumps ++ [j] } : PS).jumps = st.jumps ++ [j] from rfl, jmC_push, List.length_append]
  exact this
end Go.Proofs.YtjebjninlejoeaaGreatDoor
namespace Go.Proofs.YtjebjninlejoeaaGreatDoor
open Go.RowKit Go.Maps Go.ChangeMaps
set_option linter.unusedVariables false
set_option linter.unusedSimpArgs false
set_option linter.unusedSectionVars false
set_option maxRecDepth 100000

theorem line_bad (s : Nm) (hs : s.length ≤ 1000000) (n : Int) (P : Nat) {B : Nat} (w : World) (hv : Tv B w) (hB : B ≤ w.heap.size) (ht : toks s = none) : Calls Tryz.prog 27 #[.pointer (some ⟨P, 0, none⟩), .string ⟨s.toArray⟩, .int .i64 n] w fun x w' => x = Thrown 120 n ∧ Below w.heap.size w w' := by
  have hS := split_any s hs n w hv hB
  rw [ht] at hS
  have hS' : Calls _ _ _ _ fun x w' => x = Thrown 120 n ∧ Below w.heap.size w w' := hS
  clear ht hS
  go_enter Tryz.func27, Tryz.ntmps27
  go_wp2_with fail
  (with_reducible refine hS'.mono ?_)
  rintro _ w1 ⟨rfl, b1⟩
  exact ⟨rfl, rfl, b1⟩
theorem line_none (s : Nm) (hs : s.length ≤ 1000000) (n : Int) (P : Nat) {B : Nat} (w : World) (hv : Tv B w) (hB : B ≤ w.heap.size) (ht : toks s = some []) : Calls Tryz.prog 27 #[.pointer (some ⟨P, 0, none⟩), .string ⟨s.toArray⟩, .int .i64 n] w fun x w' => x = .returned (.tuple #[]) ∧ Below w.heap.size w w' := by
  have hS := split_any s hs n w hv hB
  rw [ht] at hS
  have hS' : Calls _ _ _ _ fun x w' => ∃ N c A, x = .returned (.pointer (some ⟨N, 0, none⟩)) ∧ w'.cell? ⟨N, 0, none⟩ = some (.slice A 0 c) ∧ Below w.heap.size w w' := hS.mono fun x w' ⟨N, h1, h2, h3, h4⟩ => by
    obtain ⟨A, c, hb, hr⟩ := h2.row
    exact ⟨N, c, A, h1, hb.cell 0, h4⟩
  clear ht hS
  go_enter Tryz.func27, Tryz.ntmps27
  go_wp2_with fail
  (with_reducible refine hS'.mono ?_)
  rintro _ w1 ⟨N, c, A, rfl, c0, b1⟩
  go_wp2_with fail
  exact ⟨rfl, .tuple #[], by simp [results, Tryz.results27, go_sem], rfl, b1⟩
/-- A mark's line. -/
theorem line_mark (s : Nm) (hs : s.length ≤ 1000000) (n : Int) {B P Wm M : Nat} {st : PS} {vo vj : Value} (w : World) (hv : Tv B w) (hB : B ≤ w.heap.size) {a : Nm} (ht : toks s = some [a, [58]]) (ha : labelP a = true) (hsm : a.length ≤ 1000000) {D : Nat} (hp : PsAt w D P Wm M st vo vj) (hn : hasM st.marks a = none) : Calls Tryz.prog 27 #[.pointer (some ⟨P, 0, none⟩), .string ⟨s.toArray⟩, .int .i64 n] w fun x w' => x = .returned (.tuple #[]) ∧ PsAt w' D P Wm M { st with marks := st.marks ++ [(a, st.out.length)] } vo vj ∧ Ag (fun b => b ≠ M) w w' := by
  have hS := split_any s hs n w hv hB
  rw [ht] at hS
  obtain ⟨Ao, mo, co, hvo, hmo⟩ : ∃ Ao mo co, vo = .slice Ao mo co ∧ mo = st.out.length := by
    rcases hp.out.2 with ⟨h1, h2⟩ | ⟨g, cap, cur, h1, -⟩
    · exact ⟨_, _, _, h1, h2.symm⟩
    · exact ⟨_, _, _, h1, rfl⟩
  have hS' : Calls _ _ _ _ fun x w' => ∃ N c A, x = .returned (.pointer (some ⟨N, 0, none⟩)) ∧ w'.cell? ⟨N, 0, none⟩ = some (.slice A 2 c) ∧ (Hid (Below w.heap.size w w') ∧ Hid (Calls Tryz.prog 67 #[.pointer (some ⟨P, 0, none⟩), .pointer (some ⟨N, 0, none⟩)] w' fun x w'' => x = .returned (.bool true) ∧ Hid (PsAt w'' D P Wm M { st with marks := st.marks ++ [(a, st.out.length)] } vo vj) ∧ Hid (MapTo M w' w''))) := hS.mono fun x w' ⟨N, h1, h2, h3, h4⟩ => by
    obtain ⟨A, c, hb, hr⟩ := h2.row
    have hp' := hp.below h4
    refine ⟨N, c, A, h1, hb.cell 0, Lib.hid h4, Lib.hid ?_⟩
    subst hvo
    have := mark_new h2 hsm ha hp'.bk hp'.marks (by simp [hn])
    refine this.mono fun y w2 ⟨e1, e2, e3⟩ => ⟨e1, Lib.hid ?_, Lib.hid e2⟩
    subst hmo
    exact hp'.marked hn _ e2 e3
  have hMl := Lib.hid hp.marks.lt
  clear ht hS hp hn hvo hmo
  go_enter Tryz.func27, Tryz.ntmps27
  go_wp2_with fail
  (with_reducible refine hS'.mono ?_)
  rintro _ w1 ⟨N, c, A, rfl, c0, b1, hk⟩
  clear hS'
  go_wp2_with fail
  (with_reducible refine hk.out.mono ?_)
  rintro _ w2 ⟨rfl, p2, t2⟩
  clear hk
  go_wp2_with fail
  refine ⟨rfl, .tuple #[], by simp [results, Tryz.results27, go_sem], rfl, p2.out, ?_⟩
  have hb := b1.out
  have ht := t2.out
  exact ⟨ht.os.trans hb.os, ht.tape.trans hb.tape, ht.output.trans hb.output, by rw [ht.size]; exact hb.size, fun k hk hne => (ht.far k hne).trans (hb.block k hk)⟩
end Go.Proofs.YtjebjninlejoeaaGreatDoor
namespace Go.Proofs.YtjebjninlejoeaaGreatDoor
open Go.RowKit Go.Maps Go.ChangeMaps
set_option linter.unusedVariables false
set_option linter.unusedSimpArgs false
set_option linter.unusedSectionVars false
set_option maxRecDepth 100000

/-- A mark that was set before. -/
theorem line_twice (s : Nm) (hs : s.length ≤ 1000000) (n : Int) {B P Wm M : Nat} {st : PS} {vo vj : Value} (w : World) (hv : Tv B w) (hB : B ≤ w.heap.size) {a : Nm} (ht : toks s = some [a, [58]]) (ha : labelP a = true) (hsm : a.length ≤ 1000000) {D : Nat} (hp : PsAt w D P Wm M st vo vj) {k : Nat} (hn : hasM st.marks a = some k) : Calls Tryz.prog 27 #[.pointer (some ⟨P, 0, none⟩), .string ⟨s.toArray⟩, .int .i64 n] w fun x w' => x = Thrown 121 n ∧ Below w.heap.size w w' := by
  have hS := split_any s hs n w hv hB
  rw [ht] at hS
  obtain ⟨Ao, mo, co, hvo⟩ : ∃ Ao mo co, vo = .slice Ao mo co := by
    rcases hp.out.2 with ⟨h1, h2⟩ | ⟨g, cap, cur, h1, -⟩
    · exact ⟨_, _, _, h1⟩
    · exact ⟨_, _, _, h1⟩
  have hS' : Calls _ _ _ _ fun x w' => ∃ N c A, x = .returned (.pointer (some ⟨N, 0, none⟩)) ∧ w'.cell? ⟨N, 0, none⟩ = some (.slice A 2 c) ∧ (Hid (Below w.heap.size w w') ∧ Hid (Calls Tryz.prog 67 #[.pointer (some ⟨P, 0, none⟩), .pointer (some ⟨N, 0, none⟩)] w' fun x w'' => x = Thrown 121 n ∧ Hid (Below w'.heap.size w' w''))) := hS.mono fun x w' ⟨N, h1, h2, h3, h4⟩ => by
    obtain ⟨A, c, hb, hr⟩ := h2.row
    have hp' := hp.below h4
    refine ⟨N, c, A, h1, hb.cell 0, Lib.hid h4, Lib.hid ?_⟩
    subst hvo
    have := mark_twice (v := .int .i64 (k : Nat)) h2 hsm ha hp'.bk hp'.marks (by simp [hn])
    exact this.mono fun y w2 ⟨e1, e2⟩ => ⟨e1, Lib.hid e2⟩
  clear ht hS hp hn hvo
  go_enter Tryz.func27, Tryz.ntmps27
  go_wp2_with fail
  (with_reducible refine hS'.mono ?_)
  rintro _ w1 ⟨N, c, A, rfl, c0, b1, hk⟩
  clear hS'
  go_wp2_with fail
  (with_reducible refine hk.out.mono ?_)
  rintro _ w2 ⟨rfl, b2⟩
  exact ⟨rfl, rfl, b1.out.trans (b2.out.mono b1.out.size)⟩
end Go.Proofs.YtjebjninlejoeaaGreatDoor
namespace Go.Proofs.YtjebjninlejoeaaGreatDoor
open Go.RowKit Go.Maps Go.ChangeMaps
set_option linter.unusedVariables false
set_option linter.unusedSimpArgs false
set_option linter.unusedSectionVars false
set_option maxRecDepth 100000

theorem mark_false {w : World} {N P : Nat} {K : Nat → Prop} {t : List Nm} {n : Int} (h : RowAt w N K t n) (hm : markT t = none) : Calls Tryz.prog 67 #[.pointer (some ⟨P, 0, none⟩), .pointer (some ⟨N, 0, none⟩)] w fun x w' => x = .returned (.bool false) ∧ w' = w := by
  by_cases hl : t.length = 2
  · obtain ⟨a, b, rfl⟩ : ∃ a b, t = [a, b] := by
      match t, hl with
      | [a, b], _ => exact ⟨a, b, rfl⟩
    exact mark_no h P hm
  · exact mark_len h P hl
/-- A row that is not empty and no mark: its first cell, and what mark and take tell. -/
theorem split_word (s : Nm) (hs : s.length ≤ 1000000) (n : Int) (P : Nat) {B : Nat} (w : World) (hv : Tv B w) (hB : B ≤ w.heap.size) {s0 : Nm} {t : List Nm} (ht : toks s = some (s0 :: t)) (hm : markT (s0 :: t) = none) : Calls Tryz.prog 66 #[.string ⟨s.toArray⟩, .int .i64 n] w fun x w' => ∃ N c A, x = .returned (.pointer (some ⟨N, 0, none⟩)) ∧ w'.cell? ⟨N, 0, none⟩ = some (.slice A (t.length + 1) c) ∧ (Hid (Below w.heap.size w w') ∧ Hid (w.heap.size ≤ N) ∧ Hid (RowAt w' N (fun b => N < b) (s0 :: t) n) ∧ Hid (Calls Tryz.prog 67 #[.pointer (some ⟨P, 0, none⟩), .pointer (some ⟨N, 0, none⟩)] w' fun x w'' => x = .returned (.bool false) ∧ w'' = w')) := by
  have hS := split_any s hs n w hv hB
  rw [ht] at hS
  exact hS.mono fun x w' ⟨N, h1, h2, h3, h4⟩ => by
    obtain ⟨A, c, hb, hr⟩ := h2.row
    exact ⟨N, c, A, h1, hb.cell 0, Lib.hid h4, Lib.hid h3, Lib.hid h2, Lib.hid (mark_false h2 hm)⟩
end Go.Proofs.YtjebjninlejoeaaGreatDoor
namespace Go.Proofs.YtjebjninlejoeaaGreatDoor
open Go.RowKit Go.Maps Go.ChangeMaps
set_option linter.unusedVariables false
set_option linter.unusedSimpArgs false
set_option linter.unusedSectionVars false
set_option maxRecDepth 100000

/-- A line under way: all but the row's block and new ones as at w. -/
structure LI (w : World) (D P Wm M N Q : Nat) (st : PS) (vo vj : Value) (n : Int) (l : List Nm) (W : World) : Prop where
  low : Below w.heap.size w W
  ps : PsAt W D P Wm M st vo vj
  row : RowAt W N (fun b => N < b ∧ b < Q) l n
  lo : w.heap.size ≤ N
  own : ∀ b, Own P Wm M vo vj b → b < w.heap.size
  sz : Q ≤ W.heap.size
section
variable {w W W' : World} {D P Wm M N Q : Nat} {st : PS} {vo vj : Value} {n : Int} {l t : List Nm}
theorem RowAt.ltN {w : World} {N : Nat} {K : Nat → Prop} {l : List Nm} {n : Int} (h : RowAt w N K l n) : N < w.heap.size := by
  obtain ⟨A, c, hb, _⟩ := h.row
  exact hb.lt
theorem LI.below (h : LI w D P Wm M N Q st vo vj n l W) (hb : Below W.heap.size W W') : LI w D P Wm M N Q st vo vj n l W' :=
  ⟨h.low.trans (hb.mono h.low.size), h.ps.below hb, h.row.below hb, h.lo, h.own, Nat.le_trans h.sz hb.size⟩
theorem LI.drew (h : LI w D P Wm M N Q st vo vj n l W) : LI w D P Wm M N Q st vo vj n l W.drew := h.below (Below.drew (Below.refl _ W))
theorem LI.alloc (h : LI w D P Wm M N Q st vo vj n l W) (o : Obj) : LI w D P Wm M N Q st vo vj n l (W.alloc o) := h.below ((Below.refl _ W).alloc (Nat.le_refl _) o)
theorem LI.took (h : LI w D P Wm M N Q st vo vj n l W) (hr : RowAt W' N (fun b => N < b ∧ b < Q) t n) (ha : Ag (fun b => b ≠ N) W W') : LI w D P Wm M N Q st vo vj n t W' :=
  ⟨⟨ha.os.trans h.low.os, ha.tape.trans h.low.tape, ha.output.trans h.low.output, Nat.le_trans h.low.size ha.size, fun k hk => (ha.block k (Nat.lt_of_lt_of_le hk h.low.size) (by have := h.lo; omega)).trans (h.low.block k hk)⟩,
   h.ps.keep fun b hb ho => ha.block b hb (by have := h.own b ho; have := h.lo; omega), hr, h.lo, h.own, Nat.le_trans h.sz ha.size⟩
theorem RowAt.within {w : World} {N : Nat} {K : Nat → Prop} {l : List Nm} {n : Int} (h : RowAt w N K l n) : RowAt w N (fun b => K b ∧ b < w.heap.size) l n := by
  obtain ⟨A, c, hb, h1, h2⟩ := h.row
  refine ⟨⟨A, c, hb, h1, fun hx => ?_⟩, fun q => h.apart q.1, h.ok, h.len⟩
  obtain ⟨g, o, e, hg, hc⟩ := h2 hx
  obtain ⟨x, y, rfl⟩ := List.exists_cons_of_ne_nil hx
  exact ⟨g, o, e, ⟨hg, World.block_lt_of_cell? w _ (hc 0 x rfl)⟩, hc⟩
/-- A block of the call's own is written. -/
theorem LI.wrote (h : LI w D P Wm M N Q st vo vj n l W) {b : Nat} (hb : w.heap.size ≤ b) (hN : b ≠ N) (hQ : Q ≤ b) (ha : Ag (fun k => k ≠ b) W W') : LI w D P Wm M N Q st vo vj n l W' :=
  ⟨⟨ha.os.trans h.low.os, ha.tape.trans h.low.tape, ha.output.trans h.low.output, Nat.le_trans h.low.size ha.size, fun k hk => (ha.block k (Nat.lt_of_lt_of_le hk h.low.size) (by omega)).trans (h.low.block k hk)⟩,
   h.ps.keep fun k hk ho => ha.block k hk (by have := h.own k ho; omega), h.row.keep (fun k hk ho => ha.block k hk (by rcases ho with ho | ho <;> omega)), h.lo, h.own, Nat.le_trans h.sz ha.size⟩
/-- The line's reader is made. -/
theorem LI.reader (h : LI w D P Wm M N Q st vo vj n l W) (i : IV) : RdAt (W.alloc (.cells (rdV N i []).toArray 126)) W.heap.size N (fun b => N < b ∧ b < Q) i [] l n ∧ LI w D P Wm M N Q st vo vj n l (W.alloc (.cells (rdV N i []).toArray 126)) := by
  have h2 := h.alloc (.cells (rdV N i []).toArray 126)
  have h3 := h.sz
  have h4 := h.row.ltN
  exact ⟨⟨Bk.new W _ _, h2.row, by omega, by omega⟩, h2⟩
theorem LI.ways (h : LI w D P Wm M N Q st vo vj n l W) : W.cell? ⟨P, 1, none⟩ = some (.map (some Wm)) := h.ps.bk.cell 1
end
theorem zeroWay (W : World) : (zeroValue 114).run Tryz.prog W = .ok (wayV (iv0 0) .nilFunc) W := rfl
/-- A whole variable is written. -/
theorem bk_write {W : World} {b : Nat} {t : TypeId} {cs us : List Value} (h : Bk W b t cs) (hl : us.length = cs.length) (h1 : ∀ v ∈ us, v.oneCell' = true) : ∃ W', (storeCells ⟨b, 0, none⟩ us).run Tryz.prog W = .ok () W' ∧ Bk W' b t us ∧ Ag (fun k => k ≠ b) W W' := by
  have := run_storeCells_from (P := Tryz.prog) b t us 0 cs.toArray W h (by simpa using hl) h1
  rw [List.take_zero, List.nil_append] at this
  refine ⟨_, this, ?_, ⟨rfl, rfl, rfl, by simp [World.setRow], fun k hk hne => ?_⟩⟩
  · have h : W.heap[b]? = _ := h
    show (W.setRow b us.toArray).heap[b]? = _
    simp [World.setRow, Array.getElem?_modify, h]
  · have hne : ¬ b = k := fun e => hne e.symm
    simp [World.setRow, Array.getElem?_modify, hne]
end Go.Proofs.YtjebjninlejoeaaGreatDoor
