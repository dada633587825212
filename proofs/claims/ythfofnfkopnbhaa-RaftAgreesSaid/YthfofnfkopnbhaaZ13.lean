/- letter, the walk: must, within, bare, times. letter, the walk: bare, times. -/
import Derived.Test.YthfofnfkopnbhaaZ12
namespace Go.Proofs.Ythfofnfkopnbhaa
open Go.RowKit Go.Maps Go.ChangeMaps
set_option linter.unusedVariables false
set_option linter.unusedSimpArgs false
set_option linter.unusedSectionVars false
set_option maxRecDepth 100000

/-- What a letter that is none is panicked with. -/
def Thr : Ending := .panicked [{ v := .iface 117 (.agg #[]), recovered := false }]
/-- It returns just if this is so; else it panics so. -/
def MustR (p : Prop) (w : World) (e : Ending) (w' : World) : Prop := Below w.heap.size w w' ∧ (p ∧ e = .returned (.tuple #[]) ∨ ¬ p ∧ e = Thr)
def bools (l : List Bool) : List Value := l.map Value.bool
theorem Rd.val {w : World} {K : Nat → Prop} {A : Option Addr} {xs : List Value} {c : Nat} (h : Rd w K A c xs) {k : Nat} (hk : k < xs.length) : ∃ a, A = some a ∧ K a.block ∧ w.cell? (a.add k) = some xs[k] := by
  obtain ⟨a, e, hb, hc⟩ := h.2 (by intro e; rw [e] at hk; simp at hk)
  exact ⟨a, e, hb, hc k _ (List.getElem?_eq_getElem hk)⟩
theorem must_any (K : Nat → Prop) (A : Option Addr) (c : Nat) (l : List Bool) (w : World) (h : Rd w K A c (bools l)) (hl : l.length ≤ 100000) :
    Calls Try.prog 70 #[.slice A l.length c] w (MustR (∀ b ∈ l, b = true) w) := by
  go_enter Try.func70, Try.ntmps70
  go_wp2_with fail
  go_loopw [6] (fun i wr => wr = w ∧ ∃ k : Nat, k ≤ l.length ∧ i = .int .i64 k ∧ Hid (∀ b ∈ l.take k, b = true)) (fun i _ => l.length - (intOf i).toNat)
  case atStart => exact ⟨rfl, 0, Nat.zero_le _, rfl, fun b hb => by simp at hb⟩
  case round =>
    obtain ⟨rfl, k, hk, rfl, hall⟩ := hrel
    by_cases hlt : k < l.length
    · have d1 : decide ((k : Int) < (l.length : Int)) = true := decide_eq_true (by omega)
      obtain ⟨a, rfl, _, hc⟩ := h.val (k := k) (by simp [bools]; exact hlt)
      rw [show (bools l)[k]'(by simp [bools]; exact hlt) = Value.bool l[k] by simp [bools]] at hc
      rcases hx : l[k] with _ | _
      · rw [hx] at hc
        have HX := Lib.hid hx
        clear hx
        go_wp2_with fail
        exact ⟨rfl, Below.refl _ _, .inr ⟨fun h => absurd (HX.out.symm.trans (h _ (List.getElem_mem hlt))) (by decide), rfl⟩⟩
      · rw [hx] at hc
        have HX := Lib.hid hx
        clear hx
        go_wp2_with fail
        go_roundw
        case rel =>
          refine ⟨trivial, k + 1, by omega, by go_num, fun b hb => ?_⟩
          rw [List.take_add_one, List.mem_append] at hb
          rcases hb with hb | hb
          · exact hall.out b hb
          · rw [List.getElem?_eq_getElem hlt] at hb
            simp at hb
            rw [hb]; exact HX.out
        case measure => simp [intOf]; omega
    · have d1 : decide ((k : Int) < (l.length : Int)) = false := decide_eq_false (by omega)
      have hall2 : Hid (∀ b ∈ l, b = true) := Lib.hid (fun b hb => hall.out b (by rw [List.take_of_length_le (by omega)]; exact hb))
      go_wp2_with fail
      go_end0
      exact ⟨Below.refl _ _, .inl ⟨hall2.out, rfl⟩⟩
theorem rd_new (w : World) (cs : List Value) (t : TypeId) : Rd (w.alloc (.cells cs.toArray t)) (fun b => b = w.heap.size) (some ⟨w.heap.size, 0, none⟩) cs.length cs :=
  ⟨fun e => (by cases e), fun _ => ⟨_, rfl, rfl, news_new w cs t⟩⟩
theorem within_any (n a b : Int) (w : World) : Calls Try.prog 71 #[.int .i64 n, .int .i64 a, .int .i64 b] w (MustR (a ≤ n ∧ n ≤ b) w) := by
  have hb : Below w.heap.size w (w.alloc (.cells #[.bool (decide (a ≤ n)), .bool (decide (n ≤ b))] 4)) := (Below.refl _ _).alloc (Nat.le_refl _) _
  have hM := must_any _ _ _ [decide (a ≤ n), decide (n ≤ b)] _ (rd_new w [.bool (decide (a ≤ n)), .bool (decide (n ≤ b))] 4) (by simp)
  simp only [List.length_cons, List.length_nil, Nat.reduceAdd] at hM
  have HB := Lib.hid hb
  clear hb
  go_enter Try.func71, Try.ntmps71
  go_wp2_with fail
  refine hM.mono ?_
  rintro e w1 ⟨hb1, ⟨hp, rfl⟩ | ⟨hp, rfl⟩⟩
  · have HP := Lib.hid hp
    have HB1 := Lib.hid hb1
    clear hp hb1 hM
    go_wp2_with fail
    go_end0
    exact ⟨HB.out.trans (HB1.out.mono HB.out.size), .inl ⟨by have := HP.out; simp at this; omega, rfl⟩⟩
  · unfold Thr
    exact ⟨rfl, HB.out.trans (hb1.mono HB.out.size), .inr ⟨fun h => hp (by simp; omega), rfl⟩⟩
end Go.Proofs.Ythfofnfkopnbhaa
namespace Go.Proofs.Ythfofnfkopnbhaa
open Go.RowKit Go.Maps Go.ChangeMaps
set_option linter.unusedVariables false
set_option linter.unusedSimpArgs false
set_option linter.unusedSectionVars false
set_option maxRecDepth 100000

def lookA (l : Lt En) (ver : Int) (A : Option Addr) (d : Nat) : Value := ltA l ver A d
theorem bare_any (l : Lt En) (ver : Int) (LA : Option Addr) (d : Nat) (K : Nat → Prop) (A : Option Addr) (c : Nat) (xs : List Int) (w : World) (h : Rd w K A c (i64s xs)) (hK : ∀ b, K b → b < w.heap.size) (hl : xs.length ≤ 100000) :
    Calls Try.prog 98 #[lookA l ver LA d, .slice A xs.length c] w (MustR (∀ x ∈ xs, x = 0) w) := by
  have hb0 : Below w.heap.size w (w.alloc (.cells (ltV l ver LA d).toArray 100)) := (Below.refl _ _).alloc (Nat.le_refl _) _
  have HB0 := Lib.hid hb0
  clear hb0
  go_enter Try.func98, Try.ntmps98
  unfold lookA ltA
  simp only [ltV] at HB0 ⊢
  go_wp2_with fail
  generalize (w.alloc (.cells #[.int .u8 l.kind, .int .i64 l.src, .int .i64 l.dst, .int .i64 l.term, .int .i64 l.idx, .int .i64 l.was, .bool l.ok, .int .i64 l.com, .int .i64 ver, .slice LA l.ents.length d] 100)) = w0 at *
  go_loopw [8] (fun i wr => Below w.heap.size w wr ∧ ∃ k : Nat, k ≤ xs.length ∧ i = .int .i64 k ∧ Hid (∀ b ∈ xs.take k, b = 0)) (fun i _ => xs.length - (intOf i).toNat)
  case atStart => exact ⟨HB0.out, 0, Nat.zero_le _, rfl, fun b hb => by simp at hb⟩
  case round =>
    obtain ⟨hB, k, hk, rfl, hall⟩ := hrel
    by_cases hlt : k < xs.length
    · have d1 : decide ((k : Int) < (xs.length : Int)) = true := decide_eq_true (by omega)
      obtain ⟨a, rfl, _, hc⟩ := (h.keep (fun b hb => hB.block b (hK b hb)) (fun _ h => h)).val (k := k) (by rw [i64s_len]; exact hlt)
      rw [show (i64s xs)[k]'(by rw [i64s_len]; exact hlt) = Value.int .i64 xs[k] by simp [i64s]] at hc
      have hM := must_any _ _ _ [xs[k] == 0] _ (rd_new wr [.bool (xs[k] == 0)] 4) (by simp)
      simp only [List.length_cons, List.length_nil, Nat.reduceAdd] at hM
      have hb1 : Below wr.heap.size wr (wr.alloc (.cells #[.bool (xs[k] == 0)] 4)) := (Below.refl _ _).alloc (Nat.le_refl _) _
      have HB1 := Lib.hid hb1
      have HBR := Lib.hid hB
      clear hb1
      generalize hxk : xs[k] = x at *
      have HXK := Lib.hid hxk
      clear hxk
      go_wp2_with fail
      refine hM.mono ?_
      rintro e w2 ⟨hb2, ⟨hp, rfl⟩ | ⟨hp, rfl⟩⟩
      · have HP := Lib.hid hp
        have HB2 := Lib.hid (HBR.out.trans ((HB1.out.trans (hb2.mono HB1.out.size)).mono HBR.out.size))
        clear hp hb2 hM
        go_wp2_with fail
        go_roundw
        case rel =>
          refine ⟨HB2.out, k + 1, by omega, by go_num, fun b hb => ?_⟩
          rw [List.take_add_one, List.mem_append] at hb
          rcases hb with hb | hb
          · exact hall.out b hb
          · rw [List.getElem?_eq_getElem hlt, HXK.out] at hb
            simp at hb
            rw [hb]
            have := HP.out (x == 0) (by simp)
            simpa using this
        case measure => simp [intOf]; omega
      · unfold Thr
        refine ⟨rfl, HBR.out.trans ((HB1.out.trans (hb2.mono HB1.out.size)).mono HBR.out.size), .inr ⟨fun h => hp (fun b hb => ?_), rfl⟩⟩
        simp at hb
        rw [hb, ← HXK.out]
        have := h _ (List.getElem_mem hlt)
        simpa using this
    · have d1 : decide ((k : Int) < (xs.length : Int)) = false := decide_eq_false (by omega)
      have hall2 : Hid (∀ b ∈ xs, b = 0) := Lib.hid (fun b hb => hall.out b (by rw [List.take_of_length_le (by omega)]; exact hb))
      have HBR := Lib.hid hB
      go_wp2_with fail
      go_end0
      exact ⟨HBR.out, .inl ⟨hall2.out, rfl⟩⟩
/-- Terms are such. -/
def TermOk (x : Int) : Prop := 0 ≤ x ∧ x ≤ 1099511627776
def IdxOk (x : Int) : Prop := 0 ≤ x ∧ x ≤ 1073741824
set_option maxHeartbeats 1000000 in
theorem times_any (l : Lt En) (ver : Int) (LA : Option Addr) (d : Nat) (K : Nat → Prop) (A A' : Option Addr) (c c' : Nat) (xs ys : List Int) (w : World) (h : Rd w K A c (i64s xs)) (h' : Rd w K A' c' (i64s ys)) (hK : ∀ b, K b → b < w.heap.size) (hl : xs.length ≤ 100000) (hl' : ys.length ≤ 100000) :
    Calls Try.prog 99 #[lookA l ver LA d, .slice A xs.length c, .slice A' ys.length c'] w (MustR ((∀ x ∈ xs, TermOk x) ∧ ∀ x ∈ ys, IdxOk x) w) := by
  have hb0 : Below w.heap.size w (w.alloc (.cells (ltV l ver LA d).toArray 100)) := (Below.refl _ _).alloc (Nat.le_refl _) _
  have HB0 := Lib.hid hb0
  clear hb0
  go_enter Try.func99, Try.ntmps99
  unfold lookA ltA
  simp only [ltV] at HB0 ⊢
  go_wp2_with fail
  generalize (w.alloc (.cells #[.int .u8 l.kind, .int .i64 l.src, .int .i64 l.dst, .int .i64 l.term, .int .i64 l.idx, .int .i64 l.was, .bool l.ok, .int .i64 l.com, .int .i64 ver, .slice LA l.ents.length d] 100)) = w0 at *
  go_loopw [12] (fun i wr => Below w.heap.size w wr ∧ ∃ k : Nat, k ≤ xs.length ∧ i = .int .i64 k ∧ Hid (∀ b ∈ xs.take k, TermOk b)) (fun i _ => xs.length - (intOf i).toNat)
  case atStart => exact ⟨HB0.out, 0, Nat.zero_le _, rfl, fun b hb => by simp at hb⟩
  case round =>
    obtain ⟨hB, k, hk, rfl, hall⟩ := hrel
    by_cases hlt : k < xs.length
    · have d1 : decide ((k : Int) < (xs.length : Int)) = true := decide_eq_true (by omega)
      obtain ⟨a, rfl, _, hc⟩ := (h.keep (fun b hb => hB.block b (hK b hb)) (fun _ h => h)).val (k := k) (by rw [i64s_len]; exact hlt)
      rw [show (i64s xs)[k]'(by rw [i64s_len]; exact hlt) = Value.int .i64 xs[k] by simp [i64s]] at hc
      have HBR := Lib.hid hB
      have hM := within_any xs[k] 0 1099511627776 wr
      generalize hxk : xs[k] = x at *
      have HXK := Lib.hid hxk
      clear hxk
      go_wp2_with fail
      refine hM.mono ?_
      rintro e w2 ⟨hb2, ⟨hp, rfl⟩ | ⟨hp, rfl⟩⟩
      · have HP := Lib.hid hp
        have HB2 := Lib.hid (HBR.out.trans (hb2.mono HBR.out.size))
        clear hp hb2 hM
        go_wp2_with fail
        go_roundw
        case rel =>
          refine ⟨HB2.out, k + 1, by omega, by go_num, fun b hb => ?_⟩
          rw [List.take_add_one, List.mem_append] at hb
          rcases hb with hb | hb
          · exact hall.out b hb
          · rw [List.getElem?_eq_getElem hlt, HXK.out] at hb
            simp at hb
            rw [hb]
            exact HP.out
        case measure => simp [intOf]; omega
      · unfold Thr
        refine ⟨rfl, HBR.out.trans (hb2.mono HBR.out.size), .inr ⟨fun h => hp ?_, rfl⟩⟩
        have := h.1 _ (List.getElem_mem hlt)
        rw [HXK.out] at this
        exact this
    · have d1 : decide ((k : Int) < (xs.length : Int)) = false := decide_eq_false (by omega)
      have hall2 : Hid (∀ b ∈ xs, TermOk b) := Lib.hid (fun b hb => hall.out b (by rw [List.take_of_length_le (by omega)]; exact hb))
      have HBR := Lib.hid hB
      clear d1 hall
      go_wp2_with fail
      go_loopw [21] (fun i wr => Below w.heap.size w wr ∧ ∃ k : Nat, k ≤ ys.length ∧ i = .int .i64 k ∧ Hid (∀ b ∈ ys.take k, IdxOk b)) (fun i _ => ys.length - (intOf i).toNat)
      case atStart => exact ⟨HBR.out, 0, Nat.zero_le _, rfl, fun b hb => by simp at hb⟩
      case round =>
        obtain ⟨hB, j, hj, rfl, hall⟩ := hrel
        by_cases hlt2 : j < ys.length
        · have d1 : decide ((j : Int) < (ys.length : Int)) = true := decide_eq_true (by omega)
          obtain ⟨a, rfl, _, hc⟩ := (h'.keep (fun b hb => hB.block b (hK b hb)) (fun _ h => h)).val (k := j) (by rw [i64s_len]; exact hlt2)
          rw [show (i64s ys)[j]'(by rw [i64s_len]; exact hlt2) = Value.int .i64 ys[j] by simp [i64s]] at hc
          have HBR := Lib.hid hB
          have hM := within_any ys[j] 0 1073741824 wr
          generalize hxk : ys[j] = x at *
          have HXK := Lib.hid hxk
          clear hxk
          go_wp2_with fail
          refine hM.mono ?_
          rintro e w2 ⟨hb2, ⟨hp, rfl⟩ | ⟨hp, rfl⟩⟩
          · have HP := Lib.hid hp
            have HB2 := Lib.hid (HBR.out.trans (hb2.mono HBR.out.size))
            clear hp hb2 hM
            go_wp2_with fail
            go_roundw
            case rel =>
              refine ⟨HB2.out, j + 1, by omega, by go_num, fun b hb => ?_⟩
              rw [List.take_add_one, List.mem_append] at hb
              rcases hb with hb | hb
              · exact hall.out b hb
              · rw [List.getElem?_eq_getElem hlt2, HXK.out] at hb
                simp at hb
                rw [hb]
                exact HP.out
            case measure => simp [intOf]; omega
          · unfold Thr
            refine ⟨rfl, HBR.out.trans (hb2.mono HBR.out.size), .inr ⟨fun h => hp ?_, rfl⟩⟩
            have := h.2 _ (List.getElem_mem hlt2)
            rw [HXK.out] at this
            exact this
        · have d1 : decide ((j : Int) < (ys.length : Int)) = false := decide_eq_false (by omega)
          have hall3 : Hid (∀ b ∈ ys, IdxOk b) := Lib.hid (fun b hb => hall.out b (by rw [List.take_of_length_le (by omega)]; exact hb))
          have HBR2 := Lib.hid hB
          go_wp2_with fail
          go_end0
          exact ⟨HBR2.out, .inl ⟨⟨hall2.out, hall3.out⟩, rfl⟩⟩
end Go.Proofs.Ythfofnfkopnbhaa
