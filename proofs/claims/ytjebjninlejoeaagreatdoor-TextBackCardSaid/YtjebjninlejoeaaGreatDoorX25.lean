/- text, the walk: the parser's rows grow. -/
import Derived.Test.YtjebjninlejoeaaGreatDoorX24
namespace Go.Proofs.YtjebjninlejoeaaGreatDoor
open Go.RowKit Go.Maps Go.ChangeMaps
set_option linter.unusedVariables false
set_option linter.unusedSimpArgs false
set_option linter.unusedSectionVars false
set_option maxRecDepth 100000

theorem own_type {w : World} {base size n g : Nat} {e : TypeId} {v : Value} {xs : List Value} (h : w.ownsRow base e size v n xs) (hg : v.ownBlock = some g) : ∃ cur, w.heap[g]? = some (.cells cur e (0, 0)) := by
  rcases h.2 with ⟨rfl, -⟩ | ⟨g', cap, cur, rfl, hb, hc, r⟩
  · cases hg
  · cases hg
    exact ⟨cur, hc⟩
theorem own_ne_bk {w : World} {base size n g P : Nat} {e t : TypeId} {v : Value} {xs cs : List Value} (h : w.ownsRow base e size v n xs) (hg : v.ownBlock = some g) (hb : Bk w P t cs) (ht : t ≠ e) : g ≠ P := by
  rintro rfl
  obtain ⟨cur, hc⟩ := own_type h hg
  have hb : w.heap[g]? = _ := hb
  rw [hc] at hb
  injection hb with hb
  injection hb with _ hb
  exact ht hb.symm
theorem own_ne_mf {w : World} {base size n g m : Nat} {e : TypeId} {v : Value} {xs : List Value} {φ : Nm → Option Value} (h : w.ownsRow base e size v n xs) (hg : v.ownBlock = some g) (hm : Mf w m φ) : g ≠ m := by
  rintro rfl
  obtain ⟨cur, hc⟩ := own_type h hg
  obtain ⟨L, ⟨es, ck, h1, _⟩, _⟩ := hm
  rw [hc] at h1
  cases h1
theorem own_ne_own {w : World} {base base' size size' n n' g : Nat} {e e' : TypeId} {v v' : Value} {xs xs' : List Value} (h : w.ownsRow base e size v n xs) (hg : v.ownBlock = some g) (h' : w.ownsRow base' e' size' v' n' xs') (ht : e ≠ e') : v'.ownBlock ≠ some g := by
  intro hg'
  obtain ⟨cur, hc⟩ := own_type h hg
  obtain ⟨cur', hc'⟩ := own_type h' hg'
  rw [hc] at hc'
  injection hc' with hc'
  injection hc' with _ hc'
  exact ht hc'
theorem own_set {w : World} {base size n : Nat} {e : TypeId} {v u : Value} {xs : List Value} {p : Addr} (h : w.ownsRow base e size v n xs) (hp : ∀ g, v.ownBlock = some g → g ≠ p.block) : (w.setCell p u).ownsRow base e size v n xs :=
  own_keep h fun g hg => Below.heap_setCell w p u g (hp g hg)
/-- An instruction is appended. -/
theorem PsAt.outed {w w1 : World} {B P Wm M : Nat} {st : PS} {vo vj vo' : Value} (h : PsAt w B P Wm M st vo vj) (i : IV) (ho : w1.ownsRow B 40 8 vo' (st.out.length + 1) (outC st.out ++ ivV i)) (hg : w.grownBy w1 vo.ownBlock) : PsAt (w1.setCell ⟨P, 0, none⟩ vo') B P Wm M { st with out := st.out ++ [i] } vo' vj := by
  have sep : ∀ b, (∀ g, vo.ownBlock = some g → g ≠ b) → some b ≠ vo.ownBlock := fun b hb e => hb b e.symm rfl
  have hb1 : Bk w1 P 58 [vo, .map (some Wm), .map (some M), vj] := (hg.block P h.bk.lt (sep P fun g q => (h.no g q).1)).trans h.bk
  have hw1 := h.ways.keep (hg.block Wm h.ways.lt (sep Wm fun g q => (h.no g q).2.1))
  have hm1 := h.marks.keep (hg.block M h.marks.lt (sep M fun g q => (h.no g q).2.2.1))
  have hj1 := own_keep h.jumps fun g q => hg.block g (h.jumps.lt g q).2 (sep g fun g' q' e => by subst e; exact (h.no g' q').2.2.2 q)
  have n1 : ∀ g, vo'.ownBlock = some g → g ≠ P := fun g q => own_ne_bk ho q hb1 (by decide)
  have n2 : ∀ g, vj.ownBlock = some g → g ≠ P := fun g q => own_ne_bk hj1 q hb1 (by decide)
  refine ⟨hb1.set 0 vo', ?_, own_set hj1 n2, hw1.keep (Below.heap_setCell w1 _ _ Wm (fun e => h.ne.1 e.symm)), hm1.keep (Below.heap_setCell w1 _ _ M (fun e => h.ne.2.1 e.symm)), h.lo, h.ne, fun g q => ⟨n1 g q, own_ne_mf ho q hw1, own_ne_mf ho q hm1, own_ne_own ho q hj1 (by decide)⟩, h.nj⟩
  have := own_set (u := vo') (p := ⟨P, 0, none⟩) ho n1
  rw [show ({ st with out := st.out ++ [i] } : PS).out = st.out ++ [i] from rfl, outC_push, List.length_append]
  exact this
/-- A jump is appended. -/
theorem PsAt.jumped {w w1 : World} {B P Wm M : Nat} {st : PS} {vo vj vj' : Value} (h : PsAt w B P Wm M st vo vj) (j : Jmp) (ho : w1.ownsRow B 129 3 vj' (st.jumps.length + 1) (jmC st.jumps ++ [.int .i64 j.at_, .int .i64 j.line, .string ⟨j.to.toArray⟩])) (hg : w.grownBy w1 vj.ownBlock) : PsAt (w1.setCell ⟨P, 3, none⟩ vj') B P Wm M { st with jumps := st.jumps ++ [j] } vo vj' := by
  have sep : ∀ b, (∀ g, vj.ownBlock = some g → g ≠ b) → some b ≠ vj.ownBlock := fun b hb e => hb b e.symm rfl
  have hb1 : Bk w1 P 58 [vo, .map (some Wm), .map (some M), vj] := (hg.block P h.bk.lt (sep P fun g q => (h.nj g q).1)).trans h.bk
  have hw1 := h.ways.keep (hg.block Wm h.ways.lt (sep Wm fun g q => (h.nj g q).2.1))
  have hm1 := h.marks.keep (hg.block M h.marks.lt (sep M fun g q => (h.nj g q).2.2))
  have ho1 := own_keep h.out fun g q => hg.block g (h.out.lt g q).2 (fun e => (h.no g q).2.2.2 e.symm)
  have n1 : ∀ g, vj'.ownBlock = some g → g ≠ P := fun g q => own_ne_bk ho q hb1 (by decide)
  have n2 : ∀ g, vo.ownBlock = some g → g ≠ P := fun g q => own_ne_bk ho1 q hb1 (by decide)
  refine ⟨hb1.set 3 vj', own_set ho1 n2, ?_, hw1.keep (Below.heap_setCell w1 _ _ Wm (fun e => h.ne.1 e.symm)), hm1.keep (Below.heap_setCell w1 _ _ M (fun e => h.ne.2.1 e.symm)), h.lo, h.ne, fun g q => ⟨(h.no g q).1, (h.no g q).2.1, (h.no g q).2.2.1, own_ne_own ho1 q ho (by decide)⟩, fun g q => ⟨n1 g q, own_ne_mf ho q hw1, own_ne_mf ho q hm1⟩⟩
  have := own_set (u := vj') (p := ⟨P, 3, none⟩) ho n1
  rw [show ({ st with jumps := st.jumps ++ [j] } : PS).jumps = st.jumps ++ [j] from rfl, jmC_push, List.length_append]
  exact this
end Go.Proofs.YtjebjninlejoeaaGreatDoor

