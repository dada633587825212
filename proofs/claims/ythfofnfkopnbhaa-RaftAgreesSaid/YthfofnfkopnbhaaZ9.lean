/- raft, the walk: the map of the others, as a leader makes it. raft, the walk: win. -/
import Derived.Test.YthfofnfkopnbhaaW7
namespace Go.Proofs.Ythfofnfkopnbhaa
open Go.RowKit Go.Maps Go.ChangeMaps
set_option linter.unusedVariables false
set_option linter.unusedSimpArgs false
set_option linter.unusedSectionVars false
set_option maxRecDepth 100000

theorem sbk_same {w : World} {m : Nat} {o o' : Obj} (h : w.heap[m]? = some o) : (setBlock w m o').heap[m]? = some o' := by
  have := (Array.getElem?_eq_some_iff.1 h).1
  simp [setBlock, this]
theorem sbk_ag (w : World) (m : Nat) (o' : Obj) : Ag (fun k => k ≠ m) w (setBlock w m o') := ⟨rfl, rfl, rfl, by simp [setBlock], fun k _ hk => by simp [setBlock, Array.getElem?_setIfInBounds_ne (fun e => hk e.symm)]⟩
theorem intKey (s : Int) (h : -9223372036854775808 ≤ s ∧ s ≤ 9223372036854775807) : keyOf Try.prog 3 (.int .i64 s) = some (.int .i64 s) := Maps.keyOf_int_mk Try.underlying3 (by exact WalkArith.wf_i64 (by omega))
section
variable {w w' : World} {P : Nat} {n id : Int} {m : Pm} {R : Nat → Prop} {c c' : Cs En}
theorem OfAt.add {v : Value} {M : List (Int × Nat)} (h : OfAt w v M) {b : Nat} (hv : v = .map (some b)) {s : Int} (hs : s ∉ M.map Prod.fst) (hk : -9223372036854775808 ≤ s ∧ s ≤ 9223372036854775807) (g : Nat) :
    ∃ W', (Instr.mapUpdate 52 (.map (some b)) (.int .i64 s) (.pointer (some ⟨g, 0, none⟩))).run Try.prog w = .ok () W' ∧ Ag (fun k => k ≠ b) w W' ∧ OfAt W' v (M ++ [(s, g)]) := by
  rcases h with ⟨h1, _⟩ | ⟨b', es, ck, h1, h2, h3, h4⟩
  · rw [h1] at hv; cases hv
  · rw [h1] at hv
    injection hv with hv
    injection hv with hv
    subst hv
    have hno : ∀ e ∈ es, e.key ≠ .int .i64 s := by
      intro e he hke
      have h5 : (e.key, e.val) ∈ M.map fun p => (Value.int .i64 p.1, Value.pointer (some ⟨p.2, 0, none⟩)) := by rw [← h4]; exact List.mem_map.2 ⟨e, he, rfl⟩
      obtain ⟨p, hp, q⟩ := List.mem_map.1 h5
      injection q with q1 q2
      rw [hke] at q1
      injection q1 with _ q1
      exact hs (List.mem_map.2 ⟨p, hp, q1⟩)
    refine ⟨_, run_upd_none (Maps.int_keyed Try.underlying3) Try.underlying52 h2 h3 (intKey s hk) hno _, sbk_ag _ _ _, .inr ⟨_, _, _, h1, sbk_same h2, h3.push (intKey s hk) hno _, by simp [h4]⟩⟩
/-- A new map of the others. -/
theorem PeR.newOf (h : PeR w P n id m R c) (hP : P < w.heap.size) {N A : Int → Int} {r : Int} (h2 : r = 2 → m.vv ≠ .map none) (h3 : r ≠ 3) :
    PeR (w.alloc (.map #[] 0)) P n id { m with ov := .map (some w.heap.size), M := [] } R { c with p := { c.p with role := r, next := N, mat := A } } := by
  have hb : Below w.heap.size w (w.alloc (.map #[] 0)) := (Below.refl _ _).alloc (Nat.le_refl _) _
  have hk : ∀ b, m.Oth b → (w.alloc (.map #[] 0)).heap[b]? = w.heap[b]? := fun b hb' => hb.block b (h.own b (.inr (.inr hb')))
  have hz : (w.alloc (.map #[] 0)).heap.size = w.heap.size + 1 := by simp
  have hsub : ∀ b, ({ m with ov := .map (some w.heap.size), M := [] } : Pm).Oth b → m.Oth b ∨ b = w.heap.size := by
    rintro b (e | e | e | ⟨k, e⟩)
    · exact .inl (.inl e)
    · exact .inl (.inr (.inl e))
    · injection e with e; injection e with e; exact .inr e.symm
    · cases e
  refine ⟨h.log.below hb, h.row.keep (fun e => hk _ (.inl e)), h.dlen, fun i l d hi hd => (h.ents i l d hi hd).keep (fun b hb' => hb.block b (h.rr b hb').1) (fun _ h => h), h.vt.keep (fun b e => hk b (.inr (.inl e))), h2, .inr ⟨w.heap.size, [], 0, rfl, heap_alloc_new w _, EsOk.nil _ _, rfl⟩, (fun k b hb' => by cases hb'), (fun e => absurd e h3), ?_, ?_, h.lP, ?_, ?_, List.nodup_nil⟩
  · rintro b (e | e | e)
    · rw [hz]; omega
    · rw [hz]; have := h.own b (.inr (.inl e)); omega
    · rw [hz]
      rcases hsub b e with e | e
      · have := h.own b (.inr (.inr e)); omega
      · omega
  · intro b hb'
    obtain ⟨q1, q2⟩ := h.rr b hb'
    refine ⟨by rw [hz]; omega, ?_⟩
    rintro (e | e | e)
    · exact q2 (.inl e)
    · exact q2 (.inr (.inl e))
    · rcases hsub b e with e | e
      · exact q2 (.inr (.inr e))
      · omega
  · intro b hb'
    rcases hsub b hb' with e | e
    · exact h.lX b e
    · refine ⟨fun e' => ?_, by omega⟩
      have := h.own b (.inr (.inl e')); omega
  · intro b e e'
    injection e' with e'
    injection e' with e'
    subst e'
    have := h.own _ (.inr (.inr (.inr (.inl e)))); omega
/-- One server more in it. -/
theorem PeR.more (h : PeR w P n id m R c) (hP : P < w.heap.size) {b : Nat} (hv : m.ov = .map (some b)) {s : Int} (hs : s ∉ m.M.map Prod.fst) (hk : -9223372036854775808 ≤ s ∧ s ≤ 9223372036854775807) (h3 : c.p.role ≠ 3) :
    ∃ W', (Instr.mapUpdate 52 (.map (some b)) (.int .i64 s) (.pointer (some ⟨w.heap.size, 0, none⟩))).run Try.prog (w.alloc (.cells #[.int .i64 (c.p.next s), .int .i64 (c.p.mat s)] 93)) = .ok () W' ∧
      PeR W' P n id { m with M := m.M ++ [(s, w.heap.size)] } R c ∧ Ag (fun k => k ≠ b) w W' ∧ w.heap.size < W'.heap.size := by
  have hb : Below w.heap.size w (w.alloc (.cells #[.int .i64 (c.p.next s), .int .i64 (c.p.mat s)] 93)) := (Below.refl _ _).alloc (Nat.le_refl _) _
  have hbn : Bk (w.alloc (.cells #[.int .i64 (c.p.next s), .int .i64 (c.p.mat s)] 93)) w.heap.size 93 [.int .i64 (c.p.next s), .int .i64 (c.p.mat s)] := Bk.new w _ _
  have hz : (w.alloc (.cells #[.int .i64 (c.p.next s), .int .i64 (c.p.mat s)] 93)).heap.size = w.heap.size + 1 := by simp
  generalize (w.alloc (.cells #[.int .i64 (c.p.next s), .int .i64 (c.p.mat s)] 93)) = w1 at *
  have h1 : PeR w1 P n id m R c := h.ag (Ag.of_below _ hb)
  obtain ⟨W', u1, u2, u3⟩ := h1.of.add hv hs hk w.heap.size
  obtain ⟨es, ck, hmap⟩ := h1.of.at_ hv
  have hbl : b < w.heap.size := h.own b (.inr (.inr (.inr (.inr (.inl hv)))))
  have hsz := u2.size
  have hko : ∀ k, m.Own P k → k ≠ b → W'.heap[k]? = w1.heap[k]? := fun k hk hne => u2.block k (by have := h1.own k hk; omega) hne
  have hbX := h1.lX b (.inr (.inr (.inl hv)))
  have hlb : m.lv.ownBlock ≠ some b := fun e => by
    obtain ⟨_, cur, q⟩ := h1.row.own' e
    rw [hmap] at q; cases q
  have hvb : m.vv ≠ .map (some b) := fun e => h1.vo b e hv
  have hsb : ∀ k, (k, b) ∉ m.M := fun k e => by
    have := h1.srv k b e
    unfold Bk at this
    rw [hmap] at this; cases this
  have hsub : ∀ k, ({ m with M := m.M ++ [(s, w.heap.size)] } : Pm).Oth k → m.Oth k ∨ k = w.heap.size := by
    rintro k (e | e | e | ⟨j, e⟩)
    · exact .inl (.inl e)
    · exact .inl (.inr (.inl e))
    · exact .inl (.inr (.inr (.inl e)))
    · rcases List.mem_append.1 e with e | e
      · exact .inl (.inr (.inr (.inr ⟨j, e⟩)))
      · simp at e; exact .inr e.2
  refine ⟨W', u1, ⟨h1.log.keep (u2.mono fun k _ hL e => hbX.1 (e ▸ hL)), h1.row.keep (fun e => hko _ (.inr (.inr (.inl e))) (fun e' => hlb (e' ▸ e))), h1.dlen, fun i l d hi hd => (h1.ents i l d hi hd).keep (fun k hR => u2.block k (h1.rr k hR).1 (fun e => (h1.rr k hR).2 (e ▸ .inr (.inr (.inr (.inr (.inl hv))))))) (fun _ h => h), h1.vt.keep (fun k e => hko k (.inr (.inr (.inr (.inl e)))) (fun e' => hvb (e' ▸ e))), h1.vn, u3, ?_, (fun e => absurd e h3), ?_, ?_, h1.lP, ?_, h1.vo, ?_⟩, (Ag.of_below _ hb).trans u2, by omega⟩
  · intro k g hg
    rcases List.mem_append.1 hg with hg | hg
    · exact (h1.srv k g hg).ag u2 (fun e => hsb k (e ▸ hg))
    · simp at hg
      obtain ⟨rfl, rfl⟩ := hg
      exact hbn.ag u2 (by omega)
  · rintro k (e | e | e)
    · have := h1.own k (.inl e); omega
    · have := h1.own k (.inr (.inl e)); omega
    · rcases hsub k e with e | e
      · have := h1.own k (.inr (.inr e)); omega
      · omega
  · intro k hk'
    obtain ⟨q1, q2⟩ := h.rr k hk'
    refine ⟨by omega, ?_⟩
    rintro (e | e | e)
    · exact q2 (.inl e)
    · exact q2 (.inr (.inl e))
    · rcases hsub k e with e | e
      · exact q2 (.inr (.inr e))
      · omega
  · intro k hk'
    rcases hsub k hk' with e | e
    · exact h1.lX k e
    · refine ⟨fun e' => ?_, by omega⟩
      have := h.own k (.inr (.inl e')); omega
  · rw [List.map_append, List.nodup_append]
    refine ⟨h1.mnd, by simp, fun x hx y hy e => ?_⟩
    simp at hy
    obtain ⟨p, hp, rfl⟩ := List.mem_map.1 hx
    have := h.own p.2 (.inr (.inr (.inr (.inr (.inr ⟨p.1, hp⟩))))); omega
end
end Go.Proofs.Ythfofnfkopnbhaa
namespace Go.Proofs.Ythfofnfkopnbhaa
open Go.RowKit Go.Maps Go.ChangeMaps
set_option linter.unusedVariables false
set_option linter.unusedSimpArgs false
set_option linter.unusedSectionVars false
set_option maxRecDepth 100000

section
variable {w w' : World} {P : Nat} {n id : Int} {m : Pm} {R : Nat → Prop} {c c' : Cs En}
theorem win1_any {b lb pb : Nat} {s last : Int} (h : PeR w P n id m R c) (hP : P < w.heap.size) (h13 : w.cell? ⟨P, 13, none⟩ = some m.ov) (hv : m.ov = .map (some b)) (hs : s ∉ m.M.map Prod.fst) (hk1 : 1 ≤ s) (hk2 : s ≤ 7) (h3 : c.p.role ≠ 3)
    (hlb : w.cell? ⟨lb, 0, none⟩ = some (.int .i64 last)) (hpb : w.cell? ⟨pb, 0, none⟩ = some (.pointer (some ⟨P, 0, none⟩))) (hl0 : 0 ≤ last) (hl1 : last ≤ 100000) (hN : c.p.next s = last + 1) (hA : c.p.mat s = 0) :
    Calls Try.prog 66 #[.int .i64 s, .pointer (some ⟨lb, 0, none⟩), .pointer (some ⟨pb, 0, none⟩)] w fun e w' => e = .returned (.tuple #[]) ∧ PeR w' P n id { m with M := m.M ++ [(s, w.heap.size)] } R c ∧ Ag (fun k => k ≠ b) w w' ∧ w.heap.size < w'.heap.size := by
  obtain ⟨W', u1, u2, u3, u4⟩ := (h.ag (Ag.refl _ w).drew : PeR w.drew P n id m R c).more hP hv hs (by omega) h3
  rw [hN, hA] at u1
  rw [hv] at h13
  have hz : w.drew.heap.size = w.heap.size := rfl
  rw [hz] at u1 u2 u4
  have u5 : (Instr.mapUpdate 52 (.map (some b)) (.int .i64 s) (.pointer (some ⟨w.heap.size, 0, none⟩))).run Try.prog (w.alloc (.cells #[.int .i64 (last + 1), .int .i64 0] 93)).drew = .ok () W' := u1
  clear u1
  have U2 := Lib.hid u2
  have U3 := Lib.hid u3
  have U4 := Lib.hid u4
  have h13' : ∀ o, (w.alloc o).cell? ⟨P, 13, none⟩ = some (.map (some b)) := fun o => (World.cell?_of_block (heap_alloc_old w o hP)).trans h13
  have hpb' : ∀ o, (w.alloc o).cell? ⟨pb, 0, none⟩ = some (.pointer (some ⟨P, 0, none⟩)) := fun o => (World.cell?_of_block (heap_alloc_old w o (World.block_lt_of_cell? w _ hpb))).trans hpb
  clear h hN hA u2 u3 u4 hz
  go_enter Try.func66, Try.ntmps66
  go_wp2_with fail
  go_region
  all_goals
    go_wp2_with fail
    go_end0
    exact ⟨rfl, U2.out, ⟨U3.out.os, U3.out.tape, U3.out.output, U3.out.size, U3.out.block⟩, U4.out⟩
end
end Go.Proofs.Ythfofnfkopnbhaa
