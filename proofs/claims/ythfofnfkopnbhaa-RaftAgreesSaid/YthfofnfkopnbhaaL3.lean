/- letter, the walk: ask, vote, done, ack. -/
import Derived.Test.YthfofnfkopnbhaaZ13
namespace Go.Proofs.Ythfofnfkopnbhaa
open Go.RowKit Go.Maps Go.ChangeMaps
set_option linter.unusedVariables false
set_option linter.unusedSimpArgs false
set_option linter.unusedSectionVars false
set_option maxRecDepth 100000

def AskOk (l : Lt En) (ver : Int) : Prop := l.ok = false ∧ l.com = 0 ∧ ver = 0 ∧ l.ents.length = 0 ∧ TermOk l.term ∧ TermOk l.was ∧ IdxOk l.idx
def VoteOk (l : Lt En) (ver : Int) : Prop := l.idx = 0 ∧ l.was = 0 ∧ l.com = 0 ∧ ver = 0 ∧ l.ents.length = 0 ∧ TermOk l.term
def DoneOk (l : Lt En) (ver : Int) : Prop := l.was = 0 ∧ l.com = 0 ∧ ver = 0 ∧ l.ents.length = 0 ∧ TermOk l.term ∧ IdxOk l.idx
def AckOk (l : Lt En) (ver : Int) : Prop := l.term = 0 ∧ l.idx = 0 ∧ l.was = 0 ∧ l.com = 0 ∧ l.ents.length = 0 ∧ 1 ≤ ver ∧ ver ≤ 1073741824
theorem rd_new2 (w : World) (xs ys : List Value) (t : TypeId) : Rd ((w.alloc (.cells xs.toArray t)).alloc (.cells ys.toArray t)) (fun b => b = w.heap.size ∨ b = w.heap.size + 1) (some ⟨w.heap.size, 0, none⟩) xs.length xs ∧
    Rd ((w.alloc (.cells xs.toArray t)).alloc (.cells ys.toArray t)) (fun b => b = w.heap.size ∨ b = w.heap.size + 1) (some ⟨w.heap.size + 1, 0, none⟩) ys.length ys := by
  constructor
  · exact (rd_new w xs t).keep (fun b hb => heap_alloc_old _ _ (by rw [hb]; simp)) (fun b hb => .inl hb)
  · have := rd_new (w.alloc (.cells xs.toArray t)) ys t
    rw [World.size_alloc] at this
    exact this.keep (fun _ _ => rfl) (fun b hb => .inr hb)
set_option maxHeartbeats 1000000 in
theorem ask_look (l : Lt En) (ver : Int) (A : Option Addr) (d : Nat) (w : World) (hc : l.ents.length ≤ 9000000000) : Calls Try.prog 87 #[lookA l ver A d] w (MustR (AskOk l ver) w) := by
  have hb0 : Below w.heap.size w (w.alloc (.cells (ltV l ver A d).toArray 100)) := (Below.refl _ _).alloc (Nat.le_refl _) _
  have hl0 : Bk (w.alloc (.cells (ltV l ver A d).toArray 100)) w.heap.size 100 (ltV l ver A d) := Bk.new w _ _
  unfold lookA ltA
  simp only [ltV] at hb0 hl0 ⊢
  obtain ⟨l0, l1, l2, l3, l4, l5, l6, l7, l8, l9⟩ := cells10 hl0
  have HB0 := Lib.hid hb0
  have HL0 := Lib.hid hl0
  have HZ0 : Hid ((w.alloc (.cells #[.int .u8 l.kind, .int .i64 l.src, .int .i64 l.dst, .int .i64 l.term, .int .i64 l.idx, .int .i64 l.was, .bool l.ok, .int .i64 l.com, .int .i64 ver, .slice A l.ents.length d] 100)).heap.size = w.heap.size + 1) := Lib.hid (by simp)
  obtain ⟨w0, hw0⟩ : ∃ w0, w0 = (w.alloc (.cells #[.int .u8 l.kind, .int .i64 l.src, .int .i64 l.dst, .int .i64 l.term, .int .i64 l.idx, .int .i64 l.was, .bool l.ok, .int .i64 l.com, .int .i64 ver, .slice A l.ents.length d] 100)) := ⟨_, rfl⟩
  rw [← hw0] at l0 l1 l2 l3 l4 l5 l6 l7 l8 l9 HB0 HL0
  clear hb0 hl0
  go_enter Try.func87, Try.ntmps87
  rw [hw0] at l0 l1 l2 l3 l4 l5 l6 l7 l8 l9 HB0 HL0
  clear hw0
  go_wp2_with fail
  generalize (w.alloc (.cells #[.int .u8 l.kind, .int .i64 l.src, .int .i64 l.dst, .int .i64 l.term, .int .i64 l.idx, .int .i64 l.was, .bool l.ok, .int .i64 l.com, .int .i64 ver, .slice A l.ents.length d] 100)) = w0 at *
  have hC := must_any _ _ _ [!l.ok] _ (rd_new w0 [.bool (!l.ok)] 4) (by simp)
  try simp only [lookA, ltA, ltV, i64s, List.map_cons, List.map_nil, List.length_cons, List.length_nil, Nat.reduceAdd] at hC
  rw [HZ0.out] at hC
  have HPR : Below w0.heap.size w0 _ := ((Below.refl _ w0).alloc (Nat.le_refl _) (.cells #[.bool (!l.ok)] 4))
  refine hC.mono ?_
  rintro e w1 ⟨hb1, ⟨hp1, rfl⟩ | ⟨hp1, rfl⟩⟩
  rotate_left 1
  · unfold Thr
    refine ⟨rfl, HB0.out.trans ((HPR.trans (hb1.mono HPR.size)).mono HB0.out.size), .inr ⟨fun h => hp1 ?_, rfl⟩⟩
    unfold AskOk at h
    simp [TermOk, IdxOk] at h ⊢
    first | omega | (obtain ⟨_⟩ := h; simp_all)
  have HB1 := Lib.hid (HB0.out.trans ((HPR.trans (hb1.mono HPR.size)).mono HB0.out.size))
  have HL1 := Lib.hid ((HL0.out.below (HPR.trans (hb1.mono HPR.size)) HL0.out.lt))
  have HQ1 := Lib.hid hp1
  clear hC hb1 hp1 HPR l0 l1 l2 l3 l4 l5 l6 l7 l8 l9
  obtain ⟨l0, l1, l2, l3, l4, l5, l6, l7, l8, l9⟩ := cells10 HL1.out
  go_wp2_with fail
  have hC := bare_any l ver A d _ _ _ [l.com, ver, (l.ents.length : Int)] _ (rd_new w1 (i64s [l.com, ver, (l.ents.length : Int)]) 3) (fun b hb => by rw [hb]; simp) (by simp)
  try simp only [lookA, ltA, ltV, i64s, List.map_cons, List.map_nil, List.length_cons, List.length_nil, Nat.reduceAdd] at hC
  have HPR : Below w1.heap.size w1 _ := ((Below.refl _ w1).alloc (Nat.le_refl _) (.cells #[.int .i64 l.com, .int .i64 ver, .int .i64 (l.ents.length : Int)] 3))
  refine hC.mono ?_
  rintro e w2 ⟨hb2, ⟨hp2, rfl⟩ | ⟨hp2, rfl⟩⟩
  rotate_left 1
  · unfold Thr
    refine ⟨rfl, HB1.out.trans ((HPR.trans (hb2.mono HPR.size)).mono HB1.out.size), .inr ⟨fun h => hp2 ?_, rfl⟩⟩
    unfold AskOk at h
    simp [TermOk, IdxOk] at h ⊢
    first | omega | (obtain ⟨_⟩ := h; simp_all)
  have HB2 := Lib.hid (HB1.out.trans ((HPR.trans (hb2.mono HPR.size)).mono HB1.out.size))
  have HL2 := Lib.hid ((HL1.out.below (HPR.trans (hb2.mono HPR.size)) HL1.out.lt))
  have HQ2 := Lib.hid hp2
  clear hC hb2 hp2 HPR l0 l1 l2 l3 l4 l5 l6 l7 l8 l9
  obtain ⟨l0, l1, l2, l3, l4, l5, l6, l7, l8, l9⟩ := cells10 HL2.out
  have m4 : ∀ o, (w2.alloc o).cell? ⟨w.heap.size, 4, none⟩ = some (.int .i64 l.idx) := fun o => (HL2.out.alloc o).cell 4
  go_wp2_with fail
  have hC := times_any l ver A d _ _ _ _ _ [l.term, l.was] [l.idx] _ (rd_new2 w2 (i64s [l.term, l.was]) (i64s [l.idx]) 3).1 (rd_new2 w2 (i64s [l.term, l.was]) (i64s [l.idx]) 3).2 (fun b hb => by rcases hb with rfl | rfl <;> (rw [World.size_alloc, World.size_alloc]; omega)) (by simp) (by simp)
  try simp only [lookA, ltA, ltV, i64s, List.map_cons, List.map_nil, List.length_cons, List.length_nil, Nat.reduceAdd] at hC
  have HPR : Below w2.heap.size w2 _ := (((Below.refl _ w2).alloc (Nat.le_refl _) (.cells #[.int .i64 l.term, .int .i64 l.was] 3)).alloc (by simp) (.cells #[.int .i64 l.idx] 3))
  refine hC.mono ?_
  rintro e w3 ⟨hb3, ⟨hp3, rfl⟩ | ⟨hp3, rfl⟩⟩
  rotate_left 1
  · unfold Thr
    refine ⟨rfl, HB2.out.trans ((HPR.trans (hb3.mono HPR.size)).mono HB2.out.size), .inr ⟨fun h => hp3 ?_, rfl⟩⟩
    unfold AskOk at h
    simp [TermOk, IdxOk] at h ⊢
    first | omega | (obtain ⟨_⟩ := h; simp_all)
  have HB3 := Lib.hid (HB2.out.trans ((HPR.trans (hb3.mono HPR.size)).mono HB2.out.size))
  have HL3 := Lib.hid ((HL2.out.below (HPR.trans (hb3.mono HPR.size)) HL2.out.lt))
  have HQ3 := Lib.hid hp3
  clear hC hb3 hp3 HPR l0 l1 l2 l3 l4 l5 l6 l7 l8 l9 m4
  obtain ⟨l0, l1, l2, l3, l4, l5, l6, l7, l8, l9⟩ := cells10 HL3.out
  go_wp2_with fail
  go_end0
  refine ⟨HB3.out, .inl ⟨?_, rfl⟩⟩
  have q1 := HQ1.out
  have q2 := HQ2.out
  have q3 := HQ3.out
  unfold AskOk
  simp [TermOk, IdxOk] at q1 q2 q3 ⊢
  first | omega | simp_all
set_option maxHeartbeats 1000000 in
theorem vote_look (l : Lt En) (ver : Int) (A : Option Addr) (d : Nat) (w : World) (hc : l.ents.length ≤ 9000000000) : Calls Try.prog 88 #[lookA l ver A d] w (MustR (VoteOk l ver) w) := by
  have hb0 : Below w.heap.size w (w.alloc (.cells (ltV l ver A d).toArray 100)) := (Below.refl _ _).alloc (Nat.le_refl _) _
  have hl0 : Bk (w.alloc (.cells (ltV l ver A d).toArray 100)) w.heap.size 100 (ltV l ver A d) := Bk.new w _ _
  unfold lookA ltA
  simp only [ltV] at hb0 hl0 ⊢
  obtain ⟨l0, l1, l2, l3, l4, l5, l6, l7, l8, l9⟩ := cells10 hl0
  have HB0 := Lib.hid hb0
  have HL0 := Lib.hid hl0
  have HZ0 : Hid ((w.alloc (.cells #[.int .u8 l.kind, .int .i64 l.src, .int .i64 l.dst, .int .i64 l.term, .int .i64 l.idx, .int .i64 l.was, .bool l.ok, .int .i64 l.com, .int .i64 ver, .slice A l.ents.length d] 100)).heap.size = w.heap.size + 1) := Lib.hid (by simp)
  obtain ⟨w0, hw0⟩ : ∃ w0, w0 = (w.alloc (.cells #[.int .u8 l.kind, .int .i64 l.src, .int .i64 l.dst, .int .i64 l.term, .int .i64 l.idx, .int .i64 l.was, .bool l.ok, .int .i64 l.com, .int .i64 ver, .slice A l.ents.length d] 100)) := ⟨_, rfl⟩
  rw [← hw0] at l0 l1 l2 l3 l4 l5 l6 l7 l8 l9 HB0 HL0
  clear hb0 hl0
  go_enter Try.func88, Try.ntmps88
  rw [hw0] at l0 l1 l2 l3 l4 l5 l6 l7 l8 l9 HB0 HL0
  clear hw0
  go_wp2_with fail
  generalize (w.alloc (.cells #[.int .u8 l.kind, .int .i64 l.src, .int .i64 l.dst, .int .i64 l.term, .int .i64 l.idx, .int .i64 l.was, .bool l.ok, .int .i64 l.com, .int .i64 ver, .slice A l.ents.length d] 100)) = w0 at *
  have hC := bare_any l ver A d _ _ _ [l.idx, l.was, l.com, ver, (l.ents.length : Int)] _ (rd_new w0 (i64s [l.idx, l.was, l.com, ver, (l.ents.length : Int)]) 3) (fun b hb => by rw [hb]; simp) (by simp)
  try simp only [lookA, ltA, ltV, i64s, List.map_cons, List.map_nil, List.length_cons, List.length_nil, Nat.reduceAdd] at hC
  rw [HZ0.out] at hC
  have HPR : Below w0.heap.size w0 _ := ((Below.refl _ w0).alloc (Nat.le_refl _) (.cells #[.int .i64 l.idx, .int .i64 l.was, .int .i64 l.com, .int .i64 ver, .int .i64 (l.ents.length : Int)] 3))
  refine hC.mono ?_
  rintro e w1 ⟨hb1, ⟨hp1, rfl⟩ | ⟨hp1, rfl⟩⟩
  rotate_left 1
  · unfold Thr
    refine ⟨rfl, HB0.out.trans ((HPR.trans (hb1.mono HPR.size)).mono HB0.out.size), .inr ⟨fun h => hp1 ?_, rfl⟩⟩
    unfold VoteOk at h
    simp [TermOk, IdxOk] at h ⊢
    first | omega | (obtain ⟨_⟩ := h; simp_all)
  have HB1 := Lib.hid (HB0.out.trans ((HPR.trans (hb1.mono HPR.size)).mono HB0.out.size))
  have HL1 := Lib.hid ((HL0.out.below (HPR.trans (hb1.mono HPR.size)) HL0.out.lt))
  have HQ1 := Lib.hid hp1
  clear hC hb1 hp1 HPR l0 l1 l2 l3 l4 l5 l6 l7 l8 l9
  obtain ⟨l0, l1, l2, l3, l4, l5, l6, l7, l8, l9⟩ := cells10 HL1.out
  go_wp2_with fail
  have hC := times_any l ver A d _ _ none _ 0 [l.term] [] _ (rd_new w1 (i64s [l.term]) 3) (Rd.none_ _ _ _ _ (fun _ => rfl)) (fun b hb => by rw [hb]; simp) (by simp) (by simp)
  try simp only [lookA, ltA, ltV, i64s, List.map_cons, List.map_nil, List.length_cons, List.length_nil, Nat.reduceAdd] at hC
  have HPR : Below w1.heap.size w1 _ := ((Below.refl _ w1).alloc (Nat.le_refl _) (.cells #[.int .i64 l.term] 3))
  refine hC.mono ?_
  rintro e w2 ⟨hb2, ⟨hp2, rfl⟩ | ⟨hp2, rfl⟩⟩
  rotate_left 1
  · unfold Thr
    refine ⟨rfl, HB1.out.trans ((HPR.trans (hb2.mono HPR.size)).mono HB1.out.size), .inr ⟨fun h => hp2 ?_, rfl⟩⟩
    unfold VoteOk at h
    simp [TermOk, IdxOk] at h ⊢
    first | omega | (obtain ⟨_⟩ := h; simp_all)
  have HB2 := Lib.hid (HB1.out.trans ((HPR.trans (hb2.mono HPR.size)).mono HB1.out.size))
  have HL2 := Lib.hid ((HL1.out.below (HPR.trans (hb2.mono HPR.size)) HL1.out.lt))
  have HQ2 := Lib.hid hp2
  clear hC hb2 hp2 HPR l0 l1 l2 l3 l4 l5 l6 l7 l8 l9
  obtain ⟨l0, l1, l2, l3, l4, l5, l6, l7, l8, l9⟩ := cells10 HL2.out
  go_wp2_with fail
  go_end0
  refine ⟨HB2.out, .inl ⟨?_, rfl⟩⟩
  have q1 := HQ1.out
  have q2 := HQ2.out
  unfold VoteOk
  simp [TermOk, IdxOk] at q1 q2 ⊢
  first | omega | simp_all
set_option maxHeartbeats 1000000 in
theorem done_look (l : Lt En) (ver : Int) (A : Option Addr) (d : Nat) (w : World) (hc : l.ents.length ≤ 9000000000) : Calls Try.prog 90 #[lookA l ver A d] w (MustR (DoneOk l ver) w) := by
  have hb0 : Below w.heap.size w (w.alloc (.cells (ltV l ver A d).toArray 100)) := (Below.refl _ _).alloc (Nat.le_refl _) _
  have hl0 : Bk (w.alloc (.cells (ltV l ver A d).toArray 100)) w.heap.size 100 (ltV l ver A d) := Bk.new w _ _
  unfold lookA ltA
  simp only [ltV] at hb0 hl0 ⊢
  obtain ⟨l0, l1, l2, l3, l4, l5, l6, l7, l8, l9⟩ := cells10 hl0
  have HB0 := Lib.hid hb0
  have HL0 := Lib.hid hl0
  have HZ0 : Hid ((w.alloc (.cells #[.int .u8 l.kind, .int .i64 l.src, .int .i64 l.dst, .int .i64 l.term, .int .i64 l.idx, .int .i64 l.was, .bool l.ok, .int .i64 l.com, .int .i64 ver, .slice A l.ents.length d] 100)).heap.size = w.heap.size + 1) := Lib.hid (by simp)
  obtain ⟨w0, hw0⟩ : ∃ w0, w0 = (w.alloc (.cells #[.int .u8 l.kind, .int .i64 l.src, .int .i64 l.dst, .int .i64 l.term, .int .i64 l.idx, .int .i64 l.was, .bool l.ok, .int .i64 l.com, .int .i64 ver, .slice A l.ents.length d] 100)) := ⟨_, rfl⟩
  rw [← hw0] at l0 l1 l2 l3 l4 l5 l6 l7 l8 l9 HB0 HL0
  clear hb0 hl0
  go_enter Try.func90, Try.ntmps90
  rw [hw0] at l0 l1 l2 l3 l4 l5 l6 l7 l8 l9 HB0 HL0
  clear hw0
  go_wp2_with fail
  generalize (w.alloc (.cells #[.int .u8 l.kind, .int .i64 l.src, .int .i64 l.dst, .int .i64 l.term, .int .i64 l.idx, .int .i64 l.was, .bool l.ok, .int .i64 l.com, .int .i64 ver, .slice A l.ents.length d] 100)) = w0 at *
  have hC := bare_any l ver A d _ _ _ [l.was, l.com, ver, (l.ents.length : Int)] _ (rd_new w0 (i64s [l.was, l.com, ver, (l.ents.length : Int)]) 3) (fun b hb => by rw [hb]; simp) (by simp)
  try simp only [lookA, ltA, ltV, i64s, List.map_cons, List.map_nil, List.length_cons, List.length_nil, Nat.reduceAdd] at hC
  rw [HZ0.out] at hC
  have HPR : Below w0.heap.size w0 _ := ((Below.refl _ w0).alloc (Nat.le_refl _) (.cells #[.int .i64 l.was, .int .i64 l.com, .int .i64 ver, .int .i64 (l.ents.length : Int)] 3))
  refine hC.mono ?_
  rintro e w1 ⟨hb1, ⟨hp1, rfl⟩ | ⟨hp1, rfl⟩⟩
  rotate_left 1
  · unfold Thr
    refine ⟨rfl, HB0.out.trans ((HPR.trans (hb1.mono HPR.size)).mono HB0.out.size), .inr ⟨fun h => hp1 ?_, rfl⟩⟩
    unfold DoneOk at h
    simp [TermOk, IdxOk] at h ⊢
    first | omega | (obtain ⟨_⟩ := h; simp_all)
  have HB1 := Lib.hid (HB0.out.trans ((HPR.trans (hb1.mono HPR.size)).mono HB0.out.size))
  have HL1 := Lib.hid ((HL0.out.below (HPR.trans (hb1.mono HPR.size)) HL0.out.lt))
  have HQ1 := Lib.hid hp1
  clear hC hb1 hp1 HPR l0 l1 l2 l3 l4 l5 l6 l7 l8 l9
  obtain ⟨l0, l1, l2, l3, l4, l5, l6, l7, l8, l9⟩ := cells10 HL1.out
  have m4 : ∀ o, (w1.alloc o).cell? ⟨w.heap.size, 4, none⟩ = some (.int .i64 l.idx) := fun o => (HL1.out.alloc o).cell 4
  go_wp2_with fail
  have hC := times_any l ver A d _ _ _ _ _ [l.term] [l.idx] _ (rd_new2 w1 (i64s [l.term]) (i64s [l.idx]) 3).1 (rd_new2 w1 (i64s [l.term]) (i64s [l.idx]) 3).2 (fun b hb => by rcases hb with rfl | rfl <;> (rw [World.size_alloc, World.size_alloc]; omega)) (by simp) (by simp)
  try simp only [lookA, ltA, ltV, i64s, List.map_cons, List.map_nil, List.length_cons, List.length_nil, Nat.reduceAdd] at hC
  have HPR : Below w1.heap.size w1 _ := (((Below.refl _ w1).alloc (Nat.le_refl _) (.cells #[.int .i64 l.term] 3)).alloc (by simp) (.cells #[.int .i64 l.idx] 3))
  refine hC.mono ?_
  rintro e w2 ⟨hb2, ⟨hp2, rfl⟩ | ⟨hp2, rfl⟩⟩
  rotate_left 1
  · unfold Thr
    refine ⟨rfl, HB1.out.trans ((HPR.trans (hb2.mono HPR.size)).mono HB1.out.size), .inr ⟨fun h => hp2 ?_, rfl⟩⟩
    unfold DoneOk at h
    simp [TermOk, IdxOk] at h ⊢
    first | omega | (obtain ⟨_⟩ := h; simp_all)
  have HB2 := Lib.hid (HB1.out.trans ((HPR.trans (hb2.mono HPR.size)).mono HB1.out.size))
  have HL2 := Lib.hid ((HL1.out.below (HPR.trans (hb2.mono HPR.size)) HL1.out.lt))
  have HQ2 := Lib.hid hp2
  clear hC hb2 hp2 HPR l0 l1 l2 l3 l4 l5 l6 l7 l8 l9 m4
  obtain ⟨l0, l1, l2, l3, l4, l5, l6, l7, l8, l9⟩ := cells10 HL2.out
  go_wp2_with fail
  go_end0
  refine ⟨HB2.out, .inl ⟨?_, rfl⟩⟩
  have q1 := HQ1.out
  have q2 := HQ2.out
  unfold DoneOk
  simp [TermOk, IdxOk] at q1 q2 ⊢
  first | omega | simp_all
set_option maxHeartbeats 1000000 in
theorem ack_look (l : Lt En) (ver : Int) (A : Option Addr) (d : Nat) (w : World) (hc : l.ents.length ≤ 9000000000) : Calls Try.prog 91 #[lookA l ver A d] w (MustR (AckOk l ver) w) := by
  have hb0 : Below w.heap.size w (w.alloc (.cells (ltV l ver A d).toArray 100)) := (Below.refl _ _).alloc (Nat.le_refl _) _
  have hl0 : Bk (w.alloc (.cells (ltV l ver A d).toArray 100)) w.heap.size 100 (ltV l ver A d) := Bk.new w _ _
  unfold lookA ltA
  simp only [ltV] at hb0 hl0 ⊢
  obtain ⟨l0, l1, l2, l3, l4, l5, l6, l7, l8, l9⟩ := cells10 hl0
  have HB0 := Lib.hid hb0
  have HL0 := Lib.hid hl0
  have HZ0 : Hid ((w.alloc (.cells #[.int .u8 l.kind, .int .i64 l.src, .int .i64 l.dst, .int .i64 l.term, .int .i64 l.idx, .int .i64 l.was, .bool l.ok, .int .i64 l.com, .int .i64 ver, .slice A l.ents.length d] 100)).heap.size = w.heap.size + 1) := Lib.hid (by simp)
  obtain ⟨w0, hw0⟩ : ∃ w0, w0 = (w.alloc (.cells #[.int .u8 l.kind, .int .i64 l.src, .int .i64 l.dst, .int .i64 l.term, .int .i64 l.idx, .int .i64 l.was, .bool l.ok, .int .i64 l.com, .int .i64 ver, .slice A l.ents.length d] 100)) := ⟨_, rfl⟩
  rw [← hw0] at l0 l1 l2 l3 l4 l5 l6 l7 l8 l9 HB0 HL0
  clear hb0 hl0
  go_enter Try.func91, Try.ntmps91
  rw [hw0] at l0 l1 l2 l3 l4 l5 l6 l7 l8 l9 HB0 HL0
  clear hw0
  go_wp2_with fail
  generalize (w.alloc (.cells #[.int .u8 l.kind, .int .i64 l.src, .int .i64 l.dst, .int .i64 l.term, .int .i64 l.idx, .int .i64 l.was, .bool l.ok, .int .i64 l.com, .int .i64 ver, .slice A l.ents.length d] 100)) = w0 at *
  have hC := bare_any l ver A d _ _ _ [l.term, l.idx, l.was, l.com, (l.ents.length : Int)] _ (rd_new w0 (i64s [l.term, l.idx, l.was, l.com, (l.ents.length : Int)]) 3) (fun b hb => by rw [hb]; simp) (by simp)
  try simp only [lookA, ltA, ltV, i64s, List.map_cons, List.map_nil, List.length_cons, List.length_nil, Nat.reduceAdd] at hC
  rw [HZ0.out] at hC
  have HPR : Below w0.heap.size w0 _ := ((Below.refl _ w0).alloc (Nat.le_refl _) (.cells #[.int .i64 l.term, .int .i64 l.idx, .int .i64 l.was, .int .i64 l.com, .int .i64 (l.ents.length : Int)] 3))
  refine hC.mono ?_
  rintro e w1 ⟨hb1, ⟨hp1, rfl⟩ | ⟨hp1, rfl⟩⟩
  rotate_left 1
  · unfold Thr
    refine ⟨rfl, HB0.out.trans ((HPR.trans (hb1.mono HPR.size)).mono HB0.out.size), .inr ⟨fun h => hp1 ?_, rfl⟩⟩
    unfold AckOk at h
    simp [TermOk, IdxOk] at h ⊢
    first | omega | (obtain ⟨_⟩ := h; simp_all)
  have HB1 := Lib.hid (HB0.out.trans ((HPR.trans (hb1.mono HPR.size)).mono HB0.out.size))
  have HL1 := Lib.hid ((HL0.out.below (HPR.trans (hb1.mono HPR.size)) HL0.out.lt))
  have HQ1 := Lib.hid hp1
  clear hC hb1 hp1 HPR l0 l1 l2 l3 l4 l5 l6 l7 l8 l9
  obtain ⟨l0, l1, l2, l3, l4, l5, l6, l7, l8, l9⟩ := cells10 HL1.out
  go_wp2_with fail
  have hC := within_any ver 1 1073741824 w1
  try simp only [lookA, ltA, ltV, i64s, List.map_cons, List.map_nil, List.length_cons, List.length_nil, Nat.reduceAdd] at hC
  have HPR : Below w1.heap.size w1 _ := (Below.refl _ w1)
  refine hC.mono ?_
  rintro e w2 ⟨hb2, ⟨hp2, rfl⟩ | ⟨hp2, rfl⟩⟩
  rotate_left 1
  · unfold Thr
    refine ⟨rfl, HB1.out.trans ((HPR.trans (hb2.mono HPR.size)).mono HB1.out.size), .inr ⟨fun h => hp2 ?_, rfl⟩⟩
    unfold AckOk at h
    simp [TermOk, IdxOk] at h ⊢
    first | omega | (obtain ⟨_⟩ := h; simp_all)
  have HB2 := Lib.hid (HB1.out.trans ((HPR.trans (hb2.mono HPR.size)).mono HB1.out.size))
  have HL2 := Lib.hid ((HL1.out.below (HPR.trans (hb2.mono HPR.size)) HL1.out.lt))
  have HQ2 := Lib.hid hp2
  clear hC hb2 hp2 HPR l0 l1 l2 l3 l4 l5 l6 l7 l8 l9
  obtain ⟨l0, l1, l2, l3, l4, l5, l6, l7, l8, l9⟩ := cells10 HL2.out
  go_wp2_with fail
  go_end0
  refine ⟨HB2.out, .inl ⟨?_, rfl⟩⟩
  have q1 := HQ1.out
  have q2 := HQ2.out
  unfold AckOk
  simp [TermOk, IdxOk] at q1 q2 ⊢
  first | omega | simp_all
end Go.Proofs.Ythfofnfkopnbhaa

