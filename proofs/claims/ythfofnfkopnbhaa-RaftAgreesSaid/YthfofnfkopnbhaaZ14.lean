/- letter, the walk: puts. letter, the walk: tried, and what it defers. -/
import Derived.Test.YthfofnfkopnbhaaL3
import Derived.Recover
import Derived.Defers
import Derived.Laws.Pointers
import Derived.Shelf.Abstract
namespace Go.Proofs.Ythfofnfkopnbhaa
open Go.RowKit Go.Maps Go.ChangeMaps
set_option linter.unusedVariables false
set_option linter.unusedSimpArgs false
set_option linter.unusedSectionVars false
set_option maxRecDepth 100000

def PutsOk (l : Lt En) (ver : Int) : Prop := l.ok = false ∧ l.ents.length ≤ 4 ∧ ver = 0 ∧ TermOk l.term ∧ TermOk l.was ∧ IdxOk l.idx ∧ IdxOk l.com ∧ ∀ e ∈ l.ents, TermOk e.term
set_option maxHeartbeats 1000000 in
theorem puts_look (l : Lt En) (ver : Int) (A : Option Addr) (d : Nat) (K : Nat → Prop) (w : World) (hc : l.ents.length ≤ 9000000000) (he : Ents w K A d l.ents) (hK : ∀ b, K b → b < w.heap.size) : Calls Try.prog 89 #[lookA l ver A d] w (MustR (PutsOk l ver) w) := by
  have hb0 : Below w.heap.size w (w.alloc (.cells (ltV l ver A d).toArray 100)) := (Below.refl _ _).alloc (Nat.le_refl _) _
  have hl0 : Bk (w.alloc (.cells (ltV l ver A d).toArray 100)) w.heap.size 100 (ltV l ver A d) := Bk.new w _ _
  unfold lookA ltA
  simp only [ltV] at hb0 hl0 ⊢
  obtain ⟨l0, l1, l2, l3, l4, l5, l6, l7, l8, l9⟩ := cells10 hl0
  have HB0 := Lib.hid hb0
  have HL0 := Lib.hid hl0
  have HZ0 : Hid ((w.alloc (.cells #[.int .u8 l.kind, .int .i64 l.src, .int .i64 l.dst, .int .i64 l.term, .int .i64 l.idx, .int .i64 l.was, .bool l.ok, .int .i64 l.com, .int .i64 ver, .slice A l.ents.length d] 100)).heap.size = w.heap.size + 1) := Lib.hid (by simp)
  obtain ⟨w0, hw0⟩ : ∃ w0, w0 = (w.alloc (.cells #[.int .u8 l.kind, .int .i64 l.src, .int .i64 l.dst, .int .i64 l.term, .int .i64 l.idx, .int .i64 l.was, .bool l.ok, .int .i64 l.com, .int .i64 ver, .slice A l.ents.length d] 100)) := ⟨_, rfl⟩
  rw [← hw0] at l0 l1 l2 l3 l4 l5 l6 l7 l8 l9 HB0 HL0
  clear hb0 hl0
  go_enter Try.func89, Try.ntmps89
  rw [hw0] at l0 l1 l2 l3 l4 l5 l6 l7 l8 l9 HB0 HL0
  clear hw0
  go_wp2_with fail
  generalize (w.alloc (.cells #[.int .u8 l.kind, .int .i64 l.src, .int .i64 l.dst, .int .i64 l.term, .int .i64 l.idx, .int .i64 l.was, .bool l.ok, .int .i64 l.com, .int .i64 ver, .slice A l.ents.length d] 100)) = w0 at *
  have hC := must_any _ _ _ [!l.ok, decide ((l.ents.length : Int) ≤ 4)] _ (rd_new w0 [.bool (!l.ok), .bool (decide ((l.ents.length : Int) ≤ 4))] 4) (by simp)
  try simp only [lookA, ltA, ltV, i64s, List.map_cons, List.map_nil, List.length_cons, List.length_nil, Nat.reduceAdd] at hC
  rw [HZ0.out] at hC
  have HPR : Below w0.heap.size w0 _ := ((Below.refl _ w0).alloc (Nat.le_refl _) (.cells #[.bool (!l.ok), .bool (decide ((l.ents.length : Int) ≤ 4))] 4))
  refine hC.mono ?_
  rintro e w1 ⟨hb1, ⟨hp1, rfl⟩ | ⟨hp1, rfl⟩⟩
  rotate_left 1
  · unfold Thr
    refine ⟨rfl, HB0.out.trans ((HPR.trans (hb1.mono HPR.size)).mono HB0.out.size), .inr ⟨fun h => hp1 ?_, rfl⟩⟩
    unfold PutsOk at h
    simp [TermOk, IdxOk] at h ⊢
    first | omega | (obtain ⟨h1, h2, _⟩ := h; simp [h1]; omega) | (obtain ⟨_⟩ := h; simp_all)
  have HB1 := Lib.hid (HB0.out.trans ((HPR.trans (hb1.mono HPR.size)).mono HB0.out.size))
  have HL1 := Lib.hid ((HL0.out.below (HPR.trans (hb1.mono HPR.size)) HL0.out.lt))
  have HQ1 := Lib.hid hp1
  clear hC hb1 hp1 HPR l0 l1 l2 l3 l4 l5 l6 l7 l8 l9
  obtain ⟨l0, l1, l2, l3, l4, l5, l6, l7, l8, l9⟩ := cells10 HL1.out
  go_wp2_with fail
  have hC := bare_any l ver A d _ _ _ [ver] _ (rd_new w1 (i64s [ver]) 3) (fun b hb => by rw [hb]; simp) (by simp)
  try simp only [lookA, ltA, ltV, i64s, List.map_cons, List.map_nil, List.length_cons, List.length_nil, Nat.reduceAdd] at hC
  have HPR : Below w1.heap.size w1 _ := ((Below.refl _ w1).alloc (Nat.le_refl _) (.cells #[.int .i64 ver] 3))
  refine hC.mono ?_
  rintro e w2 ⟨hb2, ⟨hp2, rfl⟩ | ⟨hp2, rfl⟩⟩
  rotate_left 1
  · unfold Thr
    refine ⟨rfl, HB1.out.trans ((HPR.trans (hb2.mono HPR.size)).mono HB1.out.size), .inr ⟨fun h => hp2 ?_, rfl⟩⟩
    unfold PutsOk at h
    simp [TermOk, IdxOk] at h ⊢
    first | omega | (obtain ⟨h1, h2, _⟩ := h; simp [h1]; omega) | (obtain ⟨_⟩ := h; simp_all)
  have HB2 := Lib.hid (HB1.out.trans ((HPR.trans (hb2.mono HPR.size)).mono HB1.out.size))
  have HL2 := Lib.hid ((HL1.out.below (HPR.trans (hb2.mono HPR.size)) HL1.out.lt))
  have HQ2 := Lib.hid hp2
  clear hC hb2 hp2 HPR l0 l1 l2 l3 l4 l5 l6 l7 l8 l9
  obtain ⟨l0, l1, l2, l3, l4, l5, l6, l7, l8, l9⟩ := cells10 HL2.out
  have m4 : ∀ o, (w2.alloc o).cell? ⟨w.heap.size, 4, none⟩ = some (.int .i64 l.idx) := fun o => (HL2.out.alloc o).cell 4
  have m7 : ∀ o, (w2.alloc o).cell? ⟨w.heap.size, 7, none⟩ = some (.int .i64 l.com) := fun o => (HL2.out.alloc o).cell 7
  go_wp2_with fail
  have hC := times_any l ver A d _ _ _ _ _ [l.term, l.was] [l.idx, l.com] _ (rd_new2 w2 (i64s [l.term, l.was]) (i64s [l.idx, l.com]) 3).1 (rd_new2 w2 (i64s [l.term, l.was]) (i64s [l.idx, l.com]) 3).2 (fun b hb => by rcases hb with rfl | rfl <;> (rw [World.size_alloc, World.size_alloc]; omega)) (by simp) (by simp)
  try simp only [lookA, ltA, ltV, i64s, List.map_cons, List.map_nil, List.length_cons, List.length_nil, Nat.reduceAdd] at hC
  have HPR : Below w2.heap.size w2 _ := (((Below.refl _ w2).alloc (Nat.le_refl _) (.cells #[.int .i64 l.term, .int .i64 l.was] 3)).alloc (by simp) (.cells #[.int .i64 l.idx, .int .i64 l.com] 3))
  refine hC.mono ?_
  rintro e w3 ⟨hb3, ⟨hp3, rfl⟩ | ⟨hp3, rfl⟩⟩
  rotate_left 1
  · unfold Thr
    refine ⟨rfl, HB2.out.trans ((HPR.trans (hb3.mono HPR.size)).mono HB2.out.size), .inr ⟨fun h => hp3 ?_, rfl⟩⟩
    unfold PutsOk at h
    simp [TermOk, IdxOk] at h ⊢
    first | omega | (obtain ⟨h1, h2, _⟩ := h; simp [h1]; omega) | (obtain ⟨_⟩ := h; simp_all)
  have HB3 := Lib.hid (HB2.out.trans ((HPR.trans (hb3.mono HPR.size)).mono HB2.out.size))
  have HL3 := Lib.hid ((HL2.out.below (HPR.trans (hb3.mono HPR.size)) HL2.out.lt))
  have HQ3 := Lib.hid hp3
  clear hC hb3 hp3 HPR l0 l1 l2 l3 l4 l5 l6 l7 l8 l9 m4 m7
  obtain ⟨l0, l1, l2, l3, l4, l5, l6, l7, l8, l9⟩ := cells10 HL3.out
  have HE3 := Lib.hid (he.keep (fun b hb => HB3.out.block b (hK b hb)) (fun _ h => h))
  have hs03 := HB3.out.size
  go_wp2_with fail
  go_loopw [41] (fun i wr => Below w3.heap.size w3 wr ∧ ∃ k : Nat, k ≤ l.ents.length ∧ i = .int .i64 k ∧ Hid (∀ e ∈ l.ents.take k, TermOk e.term)) (fun i _ => l.ents.length - (intOf i).toNat)
  case atStart => exact ⟨Below.refl _ _, 0, Nat.zero_le _, rfl, fun b hb => by simp at hb⟩
  case round =>
    obtain ⟨hB, k, hk, rfl, hall⟩ := hrel
    by_cases hlt : k < l.ents.length
    · have d1 : decide ((k : Int) < (l.ents.length : Int)) = true := decide_eq_true (by omega)
      obtain ⟨a, x, D, d', rfl, _, hx, ca, _, _, _⟩ := (HE3.out.keep (fun b hb => hB.block b (Nat.lt_of_lt_of_le (hK b hb) hs03)) (fun _ h => h)).at_ hlt
      obtain ⟨a0, a1, a2, a3, a4, a5⟩ := en6 ca
      clear ca
      have hLr := HL3.out.below hB HL3.out.lt
      have z0 : ∀ o, (wr.alloc o).cell? ⟨w.heap.size, 0, none⟩ = some (.int .u8 l.kind) := fun o => (hLr.alloc o).cell 0
      have z1 : ∀ o, (wr.alloc o).cell? ⟨w.heap.size, 1, none⟩ = some (.int .i64 l.src) := fun o => (hLr.alloc o).cell 1
      have z2 : ∀ o, (wr.alloc o).cell? ⟨w.heap.size, 2, none⟩ = some (.int .i64 l.dst) := fun o => (hLr.alloc o).cell 2
      have z3 : ∀ o, (wr.alloc o).cell? ⟨w.heap.size, 3, none⟩ = some (.int .i64 l.term) := fun o => (hLr.alloc o).cell 3
      have z4 : ∀ o, (wr.alloc o).cell? ⟨w.heap.size, 4, none⟩ = some (.int .i64 l.idx) := fun o => (hLr.alloc o).cell 4
      have z5 : ∀ o, (wr.alloc o).cell? ⟨w.heap.size, 5, none⟩ = some (.int .i64 l.was) := fun o => (hLr.alloc o).cell 5
      have z6 : ∀ o, (wr.alloc o).cell? ⟨w.heap.size, 6, none⟩ = some (.bool l.ok) := fun o => (hLr.alloc o).cell 6
      have z7 : ∀ o, (wr.alloc o).cell? ⟨w.heap.size, 7, none⟩ = some (.int .i64 l.com) := fun o => (hLr.alloc o).cell 7
      have z8 : ∀ o, (wr.alloc o).cell? ⟨w.heap.size, 8, none⟩ = some (.int .i64 ver) := fun o => (hLr.alloc o).cell 8
      have z9 : ∀ o, (wr.alloc o).cell? ⟨w.heap.size, 9, none⟩ = some (.slice (some a) l.ents.length d) := fun o => (hLr.alloc o).cell 9
      have HLR := Lib.hid hLr
      clear hLr l0 l1 l2 l3 l4 l5 l6 l7 l8 l9
      have HBw := Lib.hid hB
      go_wp2_with fail
      have hC := times_any l ver (some a) d _ _ none _ 0 [x.term] [] _ (rd_new (wr.alloc (.cells #[.int .i64 x.term, .int .u8 x.kind, .int .i64 x.ver, .int .i64 x.srv, .bool x.good, .slice D x.data.length d'] 44)) (i64s [x.term]) 3) (Rd.none_ _ _ _ _ (fun _ => rfl)) (fun b hb => by rw [hb]; simp) (by simp) (by simp)
      simp only [lookA, ltA, ltV, i64s, List.map_cons, List.map_nil, List.length_cons, List.length_nil, Nat.reduceAdd, World.size_alloc] at hC
      have HPR : Below wr.heap.size wr _ := (((Below.refl _ wr).alloc (Nat.le_refl _) (.cells #[.int .i64 x.term, .int .u8 x.kind, .int .i64 x.ver, .int .i64 x.srv, .bool x.good, .slice D x.data.length d'] 44)).alloc (by simp) (.cells #[.int .i64 x.term] 3))
      refine hC.mono ?_
      rintro e wn ⟨hbn, ⟨hpn, rfl⟩ | ⟨hpn, rfl⟩⟩
      · have HP := Lib.hid hpn
        have HBn := Lib.hid (HBw.out.trans ((HPR.trans (hbn.mono (by rw [World.size_alloc, World.size_alloc]; omega))).mono HBw.out.size))
        clear hpn hbn hC HPR z0 z1 z2 z3 z4 z5 z6 z7 z8 z9 a0 a1 a2 a3 a4 a5
        go_wp2_with fail
        go_roundw
        case rel =>
          refine ⟨HBn.out, k + 1, by omega, by go_num, fun b hb => ?_⟩
          rw [List.take_add_one, List.mem_append] at hb
          rcases hb with hb | hb
          · exact hall.out b hb
          · rw [hx.out] at hb
            simp at hb
            rw [hb]
            exact HP.out.1 _ (by simp)
        case measure => simp [intOf]; omega
      · unfold Thr
        refine ⟨rfl, HB3.out.trans ((HBw.out.trans ((HPR.trans (hbn.mono (by rw [World.size_alloc, World.size_alloc]; omega))).mono HBw.out.size)).mono hs03), .inr ⟨fun h => hpn ?_, rfl⟩⟩
        refine ⟨fun y hy => ?_, fun y hy => by cases hy⟩
        simp at hy
        rw [hy]
        exact h.2.2.2.2.2.2.2 x (List.mem_of_getElem? hx.out)
    · have d1 : decide ((k : Int) < (l.ents.length : Int)) = false := decide_eq_false (by omega)
      have hall2 : Hid (∀ e ∈ l.ents, TermOk e.term) := Lib.hid (fun b hb => hall.out b (by rw [List.take_of_length_le (by omega)]; exact hb))
      have HBR := Lib.hid (HB3.out.trans (hB.mono hs03))
      go_wp2_with fail
      go_end0
      refine ⟨HBR.out, .inl ⟨?_, rfl⟩⟩
      have q1 := HQ1.out
      have q2 := HQ2.out
      have q3 := HQ3.out
      unfold PutsOk
      simp [TermOk, IdxOk] at q1 q2 q3 ⊢
      exact ⟨q1.1, by omega, q2, by omega, by omega, by omega, by omega, hall2.out⟩
end Go.Proofs.Ythfofnfkopnbhaa
namespace Go.Proofs.Ythfofnfkopnbhaa
open Go.RowKit Go.Maps Go.ChangeMaps Go.Shelf
set_option linter.unusedVariables false
set_option linter.unusedSimpArgs false
set_option linter.unusedSectionVars false
set_option maxRecDepth 100000

theorem tried_idle (p : Addr) (w : World) : CallsD Try.prog 68 #[.pointer (some p)] .returning w fun e u' w' => e = .returned (.tuple #[]) ∧ u' = .returning ∧ w' = w := by
  refine callsD_of_wpS Try.func68 rfl fun c₀ cs hu => ?_
  apply wpS_seq
  apply wpS_region
  simp [wpOpsS, go_sem, recoverD, hu, Try.ntmps68, Exit.thenS]
  refine wpS_of_wp ?_
  simp [Array.replicate]
  go_wp2
  cases c₀
  simp_all [bodyPostS, results, Try.results68]
theorem tried_caught (p : Addr) (y : Bool) (w : World) (hc : w.cell? p = some (.bool y)) (hz : w.frozen? p = false) :
    CallsD Try.prog 68 #[.pointer (some p)] (.panicking [{ v := .iface 117 (.agg #[]), recovered := false }]) w fun e u' w' => e = .returned (.tuple #[]) ∧ u' = .panicking [{ v := .iface 117 (.agg #[]), recovered := true }] ∧ ∃ o, w' = (w.alloc o).setCell p (.bool false) := by
  have hc' : ∀ o, (w.alloc o).cell? p = some (.bool y) := fun o => (World.cell?_of_block (heap_alloc_old w o (World.block_lt_of_cell? w _ hc))).trans hc
  have hz' : ∀ o, (w.alloc o).frozen? p = false := fun o => by
    rw [← hz]
    unfold World.frozen?
    rw [heap_alloc_old w o (World.block_lt_of_cell? w _ hc)]
  refine callsD_of_wpS Try.func68 rfl fun c₀ cs hu => ?_
  apply wpS_seq
  apply wpS_region
  simp [wpOpsS, go_sem, recoverD, hu, Try.ntmps68, Exit.thenS]
  refine wpS_of_wp ?_
  simp [Array.replicate]
  have hta : ∀ (w : World), (Instr.typeAssert (.iface 117 (.agg #[])) 20 117 true).run Try.prog w = .ok (.tuple #[.agg #[], .bool true]) w := fun _ => by kernel_rfl
  go_wp2
  cases c₀
  simp_all [bodyPostS, results, Try.results68]
  exact ⟨_, rfl⟩
theorem tried_yes (f : Nat) (first caps : Array Value) (w : World) (hent : ∀ args w, (callFunc f args).run Try.prog w = .ok (.enter f args) w)
    (h : Calls Try.prog f (first ++ caps) (w.alloc (.cells #[.bool false] 4)) fun e w' => e = .returned (.tuple #[]) ∧ Below (w.heap.size + 1) (w.alloc (.cells #[.bool false] 4)) w') :
    Calls Try.prog 56 #[.func (.func f) first caps] w fun e w' => e = .returned (.bool true) ∧ Below w.heap.size w w' := by
  have hmf : ∀ (fn : Fn) (first cap : Array Value) (w : World), (Instr.makeFunc fn first cap).run Try.prog w = .ok (.func fn first cap) w := fun _ _ _ _ => rfl
  have H := Lib.hid h
  clear h
  go_enter_defers Try.func56, Try.ntmps56
  go_wp2
  refine H.out.mono ?_
  rintro e w1 ⟨rfl, hB⟩
  have hk : Bk w1 w.heap.size 4 [.bool false] := (Bk.new w _ _).below hB (Nat.lt_succ_self _)
  have hc : w1.cell? ⟨w.heap.size, 0, none⟩ = some (.bool false) := hk.cell 0
  have hf : w1.frozen? ⟨w.heap.size, 0, none⟩ = false := hk.frozen 0
  have HB := Lib.hid hB
  clear hk hB
  go_wp2
  refine leaves_cons (f := 68) (args := #[.pointer (some ⟨w.heap.size, 0, none⟩)]) (by simp) (by simp [go_sem]) ?_
  refine (tried_idle ⟨w.heap.size, 0, none⟩ _).mono ?_
  rintro e u' w'' ⟨rfl, rfl, rfl⟩
  simp [Leaves, settle, results, Try.results56, go_sem, hc]
  exact (((Below.refl w.heap.size w).alloc (Nat.le_refl _) _).trans (HB.out.mono (by omega))).setCell (Nat.le_refl _) _
theorem tried_no (f : Nat) (first caps : Array Value) (w : World) (hent : ∀ args w, (callFunc f args).run Try.prog w = .ok (.enter f args) w)
    (h : Calls Try.prog f (first ++ caps) (w.alloc (.cells #[.bool false] 4)) fun e w' => e = Thr ∧ Below (w.heap.size + 1) (w.alloc (.cells #[.bool false] 4)) w') :
    Calls Try.prog 56 #[.func (.func f) first caps] w fun e w' => e = .returned (.bool false) ∧ Below w.heap.size w w' := by
  have hmf : ∀ (fn : Fn) (first cap : Array Value) (w : World), (Instr.makeFunc fn first cap).run Try.prog w = .ok (.func fn first cap) w := fun _ _ _ _ => rfl
  have H := Lib.hid h
  clear h
  go_enter_defers Try.func56, Try.ntmps56
  go_wp2
  refine H.out.mono ?_
  rintro e w1 ⟨rfl, hB⟩
  have hk : Bk w1 w.heap.size 4 [.bool false] := (Bk.new w _ _).below hB (Nat.lt_succ_self _)
  have hc : w1.cell? ⟨w.heap.size, 0, none⟩ = some (.bool false) := hk.cell 0
  have hf : w1.frozen? ⟨w.heap.size, 0, none⟩ = false := hk.frozen 0
  have HB := Lib.hid hB
  have HK := Lib.hid hk
  clear hk hB
  unfold Thr
  refine leaves_cons (f := 68) (args := #[.pointer (some ⟨w.heap.size, 0, none⟩)]) (by simp) (by simp [go_sem]) ?_
  refine (tried_caught ⟨w.heap.size, 0, none⟩ false _ hc hf).mono ?_
  rintro e u' w'' ⟨rfl, rfl, o, rfl⟩
  have hq : ((w1.alloc o).setCell ⟨w.heap.size, 0, none⟩ (.bool false)).cell? ⟨w.heap.size, 0, none⟩ = some (.bool false) := ((HK.out.alloc o).set 0 (.bool false)).cell 0
  simp [Leaves, settle, results, Try.results56, go_sem, hq]
  have h1 := (((Below.refl w.heap.size w).alloc (Nat.le_refl _) (.cells #[.bool false] 4)).trans (HB.out.mono (by omega)))
  exact (h1.alloc h1.size _).setCell (Nat.le_refl _) _
end Go.Proofs.Ythfofnfkopnbhaa
