/- raft, the walk: there, changed, most; what is asked of a peer. raft, the walk: send. -/
import Derived.Test.YthfofnfkopnbhaaW1
import Derived.BigRegion
import Derived.Deep.RegionHeld3
namespace Go.Proofs.Ythfofnfkopnbhaa
open Go.RowKit Go.Maps Go.ChangeMaps
set_option linter.unusedVariables false
set_option linter.unusedSimpArgs false
set_option linter.unusedSectionVars false
set_option maxRecDepth 100000

section
variable {w w' : World} {P : Nat} {n id : Int} {m : Pm} {R : Nat → Prop} {c c' : Cs En}
theorem there_true (w : World) (P : Nat) (id : Int) (h : w.cell? ⟨P, 5, none⟩ = some (.int .i64 id)) (h0 : 0 < id) : Calls Try.prog 25 #[.pointer (some ⟨P, 0, none⟩)] w fun e w' => e = .returned (.bool true) ∧ w = w' := by
  have d1 : decide (0 < id) = true := decide_eq_true h0
  go_enter Try.func25, Try.ntmps25
  go_wp2_with fail
  go_ret
  exact ⟨rfl, rfl⟩
/-- There is no peer. -/
def NoP (w : World) (v : Value) : Prop := v = .pointer none ∨ ∃ g, v = .pointer (some ⟨g, 0, none⟩) ∧ w.cell? ⟨g, 5, none⟩ = some (.int .i64 0)
theorem there_false (w : World) (v : Value) (h : NoP w v) : Calls Try.prog 25 #[v] w fun e w' => e = .returned (.bool false) ∧ w = w' := by
  rcases h with rfl | ⟨g, rfl, h⟩
  · go_enter Try.func25, Try.ntmps25
    go_wp2_with fail
    go_ret
    exact ⟨rfl, rfl⟩
  · go_enter Try.func25, Try.ntmps25
    go_wp2_with fail
    go_ret
    exact ⟨rfl, rfl⟩
theorem most_any (w : World) (P : Nat) (n k : Int) (h : w.cell? ⟨P, 6, none⟩ = some (.int .i64 n)) (h0 : 0 ≤ n) (h7 : n ≤ 7) : Calls Try.prog 65 #[.pointer (some ⟨P, 0, none⟩), .int .i64 k] w fun e w' => e = .returned (.bool (decide (n / 2 < k))) ∧ w = w' := by
  have q : n.tdiv 2 = n / 2 := by rw [Int.tdiv_eq_ediv_of_nonneg h0]
  go_enter Try.func65, Try.ntmps65
  go_wp2_with fail
  go_ret
  exact ⟨rfl, rfl⟩
theorem changed_any (i : Int) (h : PeA w P n id m R c) : Calls Try.prog 46 #[.pointer (some ⟨P, 0, none⟩), .int .i64 i] w fun e w' => e = .returned (.tuple #[]) ∧ PeA w' P n id m R (changedP c i) ∧ Ag (fun b => b ≠ P) w w' := by
  obtain ⟨c0, c1, c2, c3, c4, c5, c6, c7, c8, c9, c10, c11, c12, c13⟩ := h.cells
  have f2 := h.frozen 2
  have hid := Lib.hid h
  clear h
  have yes : 0 < i ∧ (c.frm = 0 ∨ i < c.frm) → PeA (w.setCell ⟨P, 2, none⟩ (.int .i64 i)) P n id m R (changedP c i) ∧ Ag (fun b => b ≠ P) w (w.setCell ⟨P, 2, none⟩ (.int .i64 i)) := fun hy => by
    refine ⟨?_, (Ag.refl _ w).setCell (fun _ hK => hK rfl) _⟩
    unfold changedP
    rw [if_pos hy]
    exact hid.out.set 2 _ rfl (hid.out.r.re rfl rfl rfl rfl rfl hid.out.r.vn hid.out.r.keys)
  have no : ¬ (0 < i ∧ (c.frm = 0 ∨ i < c.frm)) → PeA w P n id m R (changedP c i) := fun hy => by
    unfold changedP
    rw [if_neg hy]
    exact hid.out
  have Y := Lib.hid yes
  have N := Lib.hid no
  clear yes no
  by_cases h1 : 0 < i
  · have d1 : decide (0 < i) = true := decide_eq_true h1
    by_cases h2 : c.frm = 0
    · have d2 : (c.frm == 0) = true := by simp [h2]
      go_enter Try.func46, Try.ntmps46
      go_wp2_with fail
      go_end0
      exact ⟨rfl, Y.out ⟨h1, .inl h2⟩⟩
    · have d2 : (c.frm == 0) = false := by simp [h2]
      by_cases h3 : i < c.frm
      · have d3 : decide (i < c.frm) = true := decide_eq_true h3
        go_enter Try.func46, Try.ntmps46
        go_wp2_with fail
        go_end0
        exact ⟨rfl, Y.out ⟨h1, .inr h3⟩⟩
      · have d3 : decide (i < c.frm) = false := decide_eq_false h3
        go_enter Try.func46, Try.ntmps46
        go_wp2_with fail
        go_end0
        exact ⟨rfl, N.out (fun h => h.2.elim h2 (fun h => by omega)), Ag.refl _ _⟩
  · have d1 : decide (0 < i) = false := decide_eq_false h1
    go_enter Try.func46, Try.ntmps46
    go_wp2_with fail
    go_end0
    exact ⟨rfl, N.out (fun h => by have := h.1; omega), Ag.refl _ _⟩
theorem leads_any (h : PeA w P n id m R c) (h0 : 0 < id) : Calls Try.prog 15 #[.pointer (some ⟨P, 0, none⟩)] w fun e w' => e = .returned (.bool (c.p.role == 3)) ∧ w = w' := by
  obtain ⟨c0, c1, c2, c3, c4, c5, c6, c7, c8, c9, c10, c11, c12, c13⟩ := h.cells
  clear h
  go_enter Try.func15, Try.ntmps15
  go_wp2_with (go_at_call 25; refine (there_true w P id c5 h0).mono ?_; rintro _ w1 ⟨rfl, rfl⟩)
  go_ret
  exact ⟨rfl, rfl⟩
theorem leads_no (w : World) (v : Value) (h : NoP w v) : Calls Try.prog 15 #[v] w fun e w' => e = .returned (.bool false) ∧ w = w' := by
  have H := Lib.hid h
  clear h
  go_enter Try.func15, Try.ntmps15
  go_wp2_with (go_at_call 25; refine (there_false w v H.out).mono ?_; rintro _ w1 ⟨rfl, rfl⟩)
  go_ret
  exact ⟨rfl, rfl⟩
theorem leader_any (h : PeA w P n id m R c) (h0 : 0 < id) : Calls Try.prog 16 #[.pointer (some ⟨P, 0, none⟩)] w fun e w' => e = .returned (.int .i64 c.p.leader) ∧ w = w' := by
  obtain ⟨c0, c1, c2, c3, c4, c5, c6, c7, c8, c9, c10, c11, c12, c13⟩ := h.cells
  clear h
  go_enter Try.func16, Try.ntmps16
  go_wp2_with (go_at_call 25; refine (there_true w P id c5 h0).mono ?_; rintro _ w1 ⟨rfl, rfl⟩)
  go_ret
  exact ⟨rfl, rfl⟩
theorem leader_no (w : World) (v : Value) (h : NoP w v) : Calls Try.prog 16 #[v] w fun e w' => e = .returned (.int .i64 0) ∧ w = w' := by
  have H := Lib.hid h
  clear h
  go_enter Try.func16, Try.ntmps16
  go_wp2_with (go_at_call 25; refine (there_false w v H.out).mono ?_; rintro _ w1 ⟨rfl, rfl⟩)
  go_ret
  exact ⟨rfl, rfl⟩
theorem pterm_any (h : PeA w P n id m R c) (h0 : 0 < id) : Calls Try.prog 17 #[.pointer (some ⟨P, 0, none⟩)] w fun e w' => e = .returned (.int .i64 c.p.T) ∧ w = w' := by
  obtain ⟨c0, c1, c2, c3, c4, c5, c6, c7, c8, c9, c10, c11, c12, c13⟩ := h.cells
  clear h
  go_enter Try.func17, Try.ntmps17
  go_wp2_with (go_at_call 25; refine (there_true w P id c5 h0).mono ?_; rintro _ w1 ⟨rfl, rfl⟩)
  go_ret
  exact ⟨rfl, rfl⟩
theorem pterm_no (w : World) (v : Value) (h : NoP w v) : Calls Try.prog 17 #[v] w fun e w' => e = .returned (.int .i64 0) ∧ w = w' := by
  have H := Lib.hid h
  clear h
  go_enter Try.func17, Try.ntmps17
  go_wp2_with (go_at_call 25; refine (there_false w v H.out).mono ?_; rintro _ w1 ⟨rfl, rfl⟩)
  go_ret
  exact ⟨rfl, rfl⟩
theorem commit_any (h : PeA w P n id m R c) (h0 : 0 < id) : Calls Try.prog 18 #[.pointer (some ⟨P, 0, none⟩)] w fun e w' => e = .returned (.int .i64 c.p.C) ∧ w = w' := by
  obtain ⟨c0, c1, c2, c3, c4, c5, c6, c7, c8, c9, c10, c11, c12, c13⟩ := h.cells
  clear h
  go_enter Try.func18, Try.ntmps18
  go_wp2_with (go_at_call 25; refine (there_true w P id c5 h0).mono ?_; rintro _ w1 ⟨rfl, rfl⟩)
  go_ret
  exact ⟨rfl, rfl⟩
theorem commit_no (w : World) (v : Value) (h : NoP w v) : Calls Try.prog 18 #[v] w fun e w' => e = .returned (.int .i64 0) ∧ w = w' := by
  have H := Lib.hid h
  clear h
  go_enter Try.func18, Try.ntmps18
  go_wp2_with (go_at_call 25; refine (there_false w v H.out).mono ?_; rintro _ w1 ⟨rfl, rfl⟩)
  go_ret
  exact ⟨rfl, rfl⟩
theorem log_any (h : PeA w P n id m R c) (h0 : 0 < id) : Calls Try.prog 19 #[.pointer (some ⟨P, 0, none⟩)] w fun e w' => e = .returned (.pointer (some ⟨m.lp, 0, none⟩)) ∧ w = w' := by
  obtain ⟨c0, c1, c2, c3, c4, c5, c6, c7, c8, c9, c10, c11, c12, c13⟩ := h.cells
  clear h
  go_enter Try.func19, Try.ntmps19
  go_wp2_with (go_at_call 25; refine (there_true w P id c5 h0).mono ?_; rintro _ w1 ⟨rfl, rfl⟩)
  go_ret
  exact ⟨rfl, rfl⟩
theorem log_no (w : World) (v : Value) (h : NoP w v) : Calls Try.prog 19 #[v] w fun e w' => e = .returned (.pointer none) ∧ w = w' := by
  have H := Lib.hid h
  clear h
  go_enter Try.func19, Try.ntmps19
  go_wp2_with (go_at_call 25; refine (there_false w v H.out).mono ?_; rintro _ w1 ⟨rfl, rfl⟩)
  go_ret
  exact ⟨rfl, rfl⟩
end
end Go.Proofs.Ythfofnfkopnbhaa
namespace Go.Proofs.Ythfofnfkopnbhaa
open Go.RowKit Go.Maps Go.ChangeMaps
set_option linter.unusedVariables false
set_option linter.unusedSimpArgs false
set_option linter.unusedSectionVars false
set_option maxRecDepth 100000

section
variable {w w' : World} {P : Nat} {n id : Int} {m : Pm} {R : Nat → Prop} {c c' : Cs En}
theorem infoLt : (Try.prog.info? 40).map (fun i => (i.zero, i.size, i.bytes)) = some (some (.agg #[.int .u8 0, .int .i64 0, .int .i64 0, .int .i64 0, .int .i64 0, .int .i64 0, .bool false, .int .i64 0, .int .i64 0, .slice none 0 0]), 10, 96) := by kernel_rfl
theorem cells10 {w : World} {g : Nat} {c0 c1 c2 c3 c4 c5 c6 c7 c8 c9 : Value} {t : TypeId} (h : Bk w g t [c0, c1, c2, c3, c4, c5, c6, c7, c8, c9]) :
    w.cell? ⟨g, 0, none⟩ = some c0 ∧ w.cell? ⟨g, 1, none⟩ = some c1 ∧ w.cell? ⟨g, 2, none⟩ = some c2 ∧ w.cell? ⟨g, 3, none⟩ = some c3 ∧ w.cell? ⟨g, 4, none⟩ = some c4 ∧ w.cell? ⟨g, 5, none⟩ = some c5 ∧ w.cell? ⟨g, 6, none⟩ = some c6 ∧ w.cell? ⟨g, 7, none⟩ = some c7 ∧ w.cell? ⟨g, 8, none⟩ = some c8 ∧ w.cell? ⟨g, 9, none⟩ = some c9 :=
  have hc := h.cell
  ⟨hc 0, hc 1, hc 2, hc 3, hc 4, hc 5, hc 6, hc 7, hc 8, hc 9⟩
/-- One letter more. -/
theorem PeA.sent {wb w3 : World} {K : Nat → Prop} {x : Lt En} {A : Option Addr} {d g2 n2 cap2 : Nat} (h : PeA w P n id m R c) (hb : Below w.heap.size w wb) (he : Ents w K A d x.ents) (hK : ∀ b, K b → b < w.heap.size ∧ ¬ m.Own P b)
    (hgr : wb.grownBy w3 m.lv.ownBlock) (hg2 : g2 = wb.heap.size ∨ g2 = m.g ∧ m.lv.ownBlock = some m.g) (hlt : g2 < w3.heap.size)
    (hrow : Row w3 40 10 (.slice (some ⟨g2, 0, none⟩) n2 cap2) g2 (c.out.length + 1) (rowL c.out m.ds ++ ltV x 0 A d)) :
    ∃ lv' g' ds', PeA (w3.setCell ⟨P, 4, none⟩ (.slice (some ⟨g2, 0, none⟩) n2 cap2)) P n id { m with lv := lv', g := g', ds := ds' } (fun b => R b ∨ K b) { c with out := c.out ++ [x] } ∧ (∀ b, ({ m with lv := lv', g := g', ds := ds' } : Pm).Own P b → m.Own P b ∨ w.heap.size ≤ b) ∧ Ag (fun b => ¬ m.Own P b) w (w3.setCell ⟨P, 4, none⟩ (.slice (some ⟨g2, 0, none⟩) n2 cap2)) := by
  have hr := h.r
  have hs1 := hb.size
  have hs2 := hgr.size
  have ho : ∀ b, m.lv.ownBlock = some b → m.Oth b := fun b e => .inl e
  have hsz : (w3.setCell ⟨P, 4, none⟩ (.slice (some ⟨g2, 0, none⟩) n2 cap2)).heap.size = w3.heap.size := by simp [World.setCell]
  have keep3 : ∀ b, b < w.heap.size → m.lv.ownBlock ≠ some b → w3.heap[b]? = w.heap[b]? := fun b h1 h2 => (hgr.block b (by omega) (fun e => h2 e.symm)).trans (hb.block b h1)
  have keep : ∀ b, b < w.heap.size → m.lv.ownBlock ≠ some b → b ≠ P → (w3.setCell ⟨P, 4, none⟩ (.slice (some ⟨g2, 0, none⟩) n2 cap2)).heap[b]? = w.heap[b]? := fun b h1 h2 h3 => (Below.heap_setCell _ _ _ _ h3).trans (keep3 b h1 h2)
  have hg2w : m.Oth g2 ∨ w.heap.size ≤ g2 := hg2.elim (fun e => .inr (by omega)) (fun e => .inl (ho _ (e.1 ▸ e.2)))
  have hg2P : g2 ≠ P := fun e => hg2w.elim (fun h' => (hr.lX _ h').2 e) (fun h' => by have := h.plt; omega)
  have hg2L : ¬ m.L g2 := fun e => hg2w.elim (fun h' => (hr.lX _ h').1 e) (fun h' => by have := hr.own _ (.inr (.inl e)); omega)
  have hlvm : ∀ b es ck, w.heap[b]? = some (.map es ck) → m.lv.ownBlock ≠ some b := fun b es ck h1 e => by
    obtain ⟨_, cur, h2⟩ := hr.row.own' e
    rw [h1] at h2; cases h2
  have hlvs : ∀ k b, (k, b) ∈ m.M → m.lv.ownBlock ≠ some b := fun k b h1 e => by
    obtain ⟨_, cur, h2⟩ := hr.row.own' e
    have h3 := hr.srv k b h1
    unfold Bk at h3
    rw [h2] at h3
    injection h3 with h3
    injection h3 with _ h3
    exact absurd h3 (by decide)
  refine ⟨.slice (some ⟨g2, 0, none⟩) n2 cap2, g2, m.ds ++ [(A, d)], ⟨?_, ⟨?_, ?_, ?_, ?_, ?_, hr.vn, ?_, ?_, hr.keys, ?_, ?_, hr.lP, ?_, hr.vo, hr.mnd⟩⟩, ?_, ?_⟩
  · have h1 : Bk w3 P 54 (peV n id m c) := (keep3 P h.plt (fun e => (hr.lX P (ho P e)).2 rfl)).trans h.obj
    exact h1.set 4 _
  · refine hr.log.keep ⟨hgr.os.trans hb.os, hgr.tape.trans hb.tape, hgr.output.trans hb.output, by rw [hsz]; omega, fun b h1 h2 => keep b h1 (fun e => (hr.lX b (ho b e)).1 h2) (fun e => hr.lP (e ▸ h2))⟩
  · have h1 : Row (w3.setCell ⟨P, 4, none⟩ (.slice (some ⟨g2, 0, none⟩) n2 cap2)) 40 10 (.slice (some ⟨g2, 0, none⟩) n2 cap2) g2 (c.out.length + 1) (rowL c.out m.ds ++ ltV x 0 A d) := hrow.keep (fun _ => Below.heap_setCell _ _ _ _ hg2P)
    show Row _ _ _ _ _ (c.out ++ [x]).length (rowL (c.out ++ [x]) (m.ds ++ [(A, d)]))
    rw [rowL_snoc _ _ _ _ hr.dlen, List.length_append]
    exact h1
  · show (m.ds ++ [(A, d)]).length = (c.out ++ [x]).length
    simp [hr.dlen]
  · intro i l' d' hi hd
    have hi : (c.out ++ [x])[i]? = some l' := hi
    have hd : (m.ds ++ [(A, d)])[i]? = some d' := hd
    have hlen := hr.dlen
    rcases Nat.lt_or_ge i c.out.length with h' | h'
    · rw [List.getElem?_append_left h'] at hi
      rw [List.getElem?_append_left (by omega)] at hd
      refine (hr.ents i l' d' hi hd).keep (fun b hb' => keep b (hr.rr b hb').1 (fun e => (hr.rr b hb').2 (.inr (.inr (ho b e)))) (fun e => (hr.rr b hb').2 (.inl e))) (fun _ h => .inl h)
    · have hi0 : i = c.out.length := by
        have := (List.getElem?_eq_some_iff.1 hi).1
        simp at this
        omega
      subst hi0
      simp at hi
      rw [← hlen] at hd
      simp at hd
      subst hi
      subst hd
      exact he.keep (fun b hb' => keep b (hK b hb').1 (fun e => (hK b hb').2 (.inr (.inr (ho b e)))) (fun e => (hK b hb').2 (.inl e))) (fun _ h => .inr h)
  · refine hr.vt.keep fun b e => ?_
    obtain ⟨es, ck, h1⟩ := hr.vt.at_ e
    exact keep b (hr.own b (.inr (.inr (.inr (.inl e))))) (hlvm b _ _ h1) (hr.lX b (.inr (.inl e))).2
  · refine hr.of.keep fun b e => ?_
    obtain ⟨es, ck, h1⟩ := hr.of.at_ e
    exact keep b (hr.own b (.inr (.inr (.inr (.inr (.inl e)))))) (hlvm b _ _ h1) (hr.lX b (.inr (.inr (.inl e)))).2
  · intro k b hb'
    exact (keep b (hr.own b (.inr (.inr (.inr (.inr (.inr ⟨k, hb'⟩)))))) (hlvs k b hb') (hr.lX b (.inr (.inr (.inr ⟨k, hb'⟩)))).2).trans (hr.srv k b hb')
  · rintro b (e | e | e | e)
    · rw [hsz]; have := h.plt; omega
    · rw [hsz]; have := hr.own b (.inr (.inl e)); omega
    · injection e with e; subst e; rw [hsz]; exact hlt
    · rw [hsz]; have := hr.own b (.inr (.inr (.inr e))); omega
  · rintro b (hb' | hb')
    · obtain ⟨h1, h2⟩ := hr.rr b hb'
      refine ⟨by rw [hsz]; omega, ?_⟩
      rintro (e | e | e | e)
      · exact h2 (.inl e)
      · exact h2 (.inr (.inl e))
      · injection e with e; subst e
        exact hg2w.elim (fun h => h2 (.inr (.inr h))) (fun h => absurd h1 (Nat.not_lt.2 h))
      · exact h2 (.inr (.inr (.inr e)))
    · obtain ⟨h1, h2⟩ := hK b hb'
      refine ⟨by rw [hsz]; omega, ?_⟩
      rintro (e | e | e | e)
      · exact h2 (.inl e)
      · exact h2 (.inr (.inl e))
      · injection e with e; subst e
        exact hg2w.elim (fun h => h2 (.inr (.inr h))) (fun h => absurd h1 (Nat.not_lt.2 h))
      · exact h2 (.inr (.inr (.inr e)))
  · rintro b (e | e)
    · injection e with e; subst e; exact ⟨hg2L, hg2P⟩
    · exact hr.lX b (.inr e)
  · rintro b (e | e | e | e)
    · exact .inl (.inl e)
    · exact .inl (.inr (.inl e))
    · injection e with e; subst e
      exact hg2w.imp (fun h => .inr (.inr h)) (fun x => x)
    · exact .inl (.inr (.inr (.inr e)))
  · exact ⟨hgr.os.trans hb.os, hgr.tape.trans hb.tape, hgr.output.trans hb.output, by rw [hsz]; omega, fun b h1 h2 => keep b h1 (fun e => h2 (.inr (.inr (ho b e)))) (fun e => h2 (.inl e))⟩
theorem send_any (to : Int) (l : Lt En) (A : Option Addr) (d : Nat) (K : Nat → Prop) (h : PeA w P n id m R c) (he : Ents w K A d l.ents) (hK : ∀ b, K b → b < w.heap.size ∧ ¬ m.Own P b) (hlen : c.out.length ≤ 100000) :
    Calls Try.prog 38 #[.pointer (some ⟨P, 0, none⟩), .int .i64 to, ltA l 0 A d] w fun e w' => e = .returned (.tuple #[]) ∧
      ∃ lv' g' ds', PeA w' P n id { m with lv := lv', g := g', ds := ds' } (fun b => R b ∨ K b) (sendP id c to l) ∧ (∀ b, ({ m with lv := lv', g := g', ds := ds' } : Pm).Own P b → m.Own P b ∨ w.heap.size ≤ b) ∧ Ag (fun b => ¬ m.Own P b) w w' := by
  obtain ⟨c0, c1, c2, c3, c4, c5, c6, c7, c8, c9, c10, c11, c12, c13⟩ := h.cells
  have hP := h.plt
  go_enter Try.func38, Try.ntmps38
  unfold ltA ltV
  go_wp2_with fail
  go_region
  all_goals go_wp2_with fail
  have hbA : Below w.heap.size w (w.alloc (.cells (ltV { l with src := id, dst := to, term := c.p.T } 0 A d).toArray 40)).drew := ((Below.refl _ _).alloc (Nat.le_refl _) _).drew
  have hbn : Bk (w.alloc (.cells (ltV { l with src := id, dst := to, term := c.p.T } 0 A d).toArray 40)).drew w.heap.size 40 (ltV { l with src := id, dst := to, term := c.p.T } 0 A d) := Bk.new w _ _
  obtain ⟨b0, b1, b2, b3, b4, b5, b6, b7, b8, b9⟩ := cells10 hbn
  have hzA : (w.alloc (.cells (ltV { l with src := id, dst := to, term := c.p.T } 0 A d).toArray 40)).drew.heap.size = w.heap.size + 1 := by simp
  simp only [ltV] at hbA hbn b0 b1 b2 b3 b4 b5 b6 b7 b8 b9 hzA
  generalize (w.alloc (.cells #[.int .u8 l.kind, .int .i64 id, .int .i64 to, .int .i64 c.p.T, .int .i64 l.idx, .int .i64 l.was, .bool l.ok, .int .i64 l.com, .int .i64 0, .slice A l.ents.length d] 40)).drew = wa at *
  have HZ := Lib.hid hzA
  clear hzA
  have hA := h.below hbA
  have q4 := hA.cells.2.2.2.2.1
  have f4 := hA.frozen 4
  have q4' : ∀ o, (wa.alloc o).cell? ⟨P, 4, none⟩ = some m.lv := fun o => (World.cell?_of_block (heap_alloc_old wa o hA.plt)).trans q4
  obtain ⟨i0, hi, hz, hz1, hz2⟩ := info_parts infoLt
  have H := Lib.hid h
  have HB := Lib.hid hbn
  clear h hbn
  go_region_law (first
        | (refine step_append_row _ (by rfl) (.tmp 24) (.tmp 26) 33 (by rfl) 40 i0 _ 10 _ Try.underlying33 hi hz hz1 hz2 rfl m.lv m.g _ _ (by rfl) (hA.r.row.keep (fun e => ?_)) ⟨wa.heap.size, 0, none⟩ 1 1 (ltV { l with src := id, dst := to, term := c.p.T } 0 A d) (by rfl) (by rfl) ?_ ?_ ?_ ?_ (by decide) ?_
           · exact (heap_alloc_old _ _ (hA.r.own _ (.inr (.inr (.inl e)))))
           · exact news_new wa.drew (ltV { l with src := id, dst := to, term := c.p.T } 0 A d) 40
           · exact ltV_one _ _ _ _
           · unfold maxLen; omega
           · omega
           intro v2 w3 g2 hrow2 hgr hv2 hg2 hlt2
           obtain ⟨cap2, rfl⟩ := hrow2.form hv2
           have ob3 : Bk w3 P 54 (peV n id m c) := (hgr.block P (by simp; exact Nat.lt_succ_of_lt hA.plt) (fun e => (hA.r.lX P (.inl e.symm)).2 rfl)).trans ((heap_alloc_old wa _ hA.plt).trans hA.obj)
           have oc3 : w3.cell? ⟨P, 4, none⟩ = some m.lv := ob3.cell 4
           have of3 : w3.frozen? ⟨P, 4, none⟩ = false := ob3.frozen 4))
  all_goals
    go_wp2_with fail
    go_end0
    exact ⟨rfl, H.out.sent (x := { l with src := id, dst := to, term := c.p.T }) (hbA.trans (((Below.refl _ wa).drew.alloc (Nat.le_refl _) _).mono hbA.size)) he hK hgr hg2 hlt2 hrow2⟩
end
end Go.Proofs.Ythfofnfkopnbhaa
