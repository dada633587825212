/- terms, has: over this seat's program. -/
import Derived.Test.YtcbomcbflmgmhaaGreatFromB
import Derived.Test.YtcbomcbflmgmhaaGreatFit2
import Derived.Test.YtcbomcbflmgmhaaGreatFitR
namespace Go.Proofs.YtcbomcbflmgmhaaGreat
open Go.RowKit
set_option linter.unusedVariables false
set_option maxRecDepth 100000

/-- An entry of a term alone. -/
def enT (t : Int) : En := ⟨t, 0, 0, 0, false, []⟩
def i64s (l : List Int) : List Value := l.map (Value.int .i64)
theorem Rd.ints {w : World} {K : Nat → Prop} {A : Option Addr} {l : List Int} {c : Nat} (h : Rd w K A c (i64s l)) {k : Nat} (hk : k < l.length) :
    ∃ a x, A = some a ∧ K a.block ∧ w.cell? (a.add k) = some (.int .i64 x) ∧ Hid (l[k]? = some x) := by
  obtain ⟨a, e, hb, hc⟩ := h.2 (by intro e; have := congrArg List.length e; simp [i64s] at this; subst this; simp at hk)
  exact ⟨a, l[k], e, hb, hc k _ (by simp [i64s, hk]), List.getElem?_eq_getElem hk⟩
/-- The cells of entries of terms. -/
def rowT (l : List Int) : List Value := rowV (l.map enT) (l.map fun _ => (none, 0))
theorem rowT_snoc (l : List Int) (t : Int) : rowT (l ++ [t]) = rowT l ++ enV (enT t) none 0 := by
  unfold rowT
  rw [List.map_append, List.map_append]
  exact rowV_snoc _ _ _ _ (by simp)
theorem rowT_ents {w w' : World} {v : Value} {g : Nat} {l : List Int} (h : Row w' 53 6 v g l.length (rowT l)) (hg : v.ownBlock = some g → w.heap.size ≤ g ∧ g < w'.heap.size) : ∃ A c, v = .slice A l.length c ∧ Ents w' (Fresh w w') A c (l.map enT) := by
  rcases h.2 with ⟨h1, h2⟩ | ⟨cap, cur, h1, hgb, h2, h3, h4, h5⟩
  · have : l = [] := List.eq_nil_of_length_eq_zero h2
    subst this
    exact ⟨none, 0, h1, fun _ => rfl, Nat.le_refl _, by decide, fun h => absurd rfl h⟩
  · refine ⟨some ⟨g, 0, none⟩, cap, h1, fun e => (by cases e), by simpa using h2, h3, fun _ => ⟨_, rfl, fun i e hi => ?_⟩⟩
    have hil := (List.getElem?_eq_some_iff.1 hi).1
    have hil' : i < l.length := by simpa using hil
    have hcell := h.cells (by rw [h1]; simp [Value.ownBlock])
    have he : e = enT l[i] := by
      rw [List.getElem?_map, List.getElem?_eq_getElem hil'] at hi
      injection hi with hi
      exact hi.symm
    refine ⟨none, 0, ?_, fun j hj => ?_, by rw [he]; exact Rd.none_ _ _ _ _ (fun _ => rfl), by rw [he]; exact Nat.le_refl _, by decide⟩
    · rw [add_blk]
      exact hg (by rw [h1]; rfl)
    · have hv := rowV_get (l.map enT) (l.map fun _ => (none, 0)) i e (none, 0) hi (by simp [hil']) j hj
      have hj' : j < (enV e none 0).length := by simpa [enV] using hj
      rw [add_add _ _ _ rfl, List.getElem?_eq_getElem hj']
      exact hcell _ _ (by unfold rowT; rw [hv, List.getElem?_eq_getElem hj'])
set_option maxRecDepth 100000 in
set_option maxHeartbeats 1000000 in
theorem terms_any (K : Nat → Prop) (A : Option Addr) (c : Nat) (l : List Int) (w : World) (h : Rd w K A c (i64s l)) (hK : ∀ b, K b → b < w.heap.size) (hl : l.length ≤ 100000) :
    Calls Tryz.prog 17 #[.slice A l.length c] w (FromP w (l.map enT)) := by
  obtain ⟨i0, hi, hz, hz1, hz2⟩ := info_parts info37
  go_enter Tryz.func17, Tryz.ntmps17
  go_wp2_with fail
  go_loopw [3, 4] (fun v i wr => ∃ (k g : Nat), k ≤ l.length ∧ i = .int .i64 k ∧ Row wr 53 6 v g k (rowT (l.take k)) ∧ (v.ownBlock = some g → w.heap.size ≤ g ∧ g < wr.heap.size) ∧ Below w.heap.size w wr) (fun _ i _ => l.length - (intOf i).toNat)
  case atStart => exact ⟨0, 0, Nat.zero_le _, rfl, Row.nil _ _ _ _, (fun e => by cases e), Below.refl _ _⟩
  case round =>
    obtain ⟨k, g, hk, rfl, hrow, hg, hB⟩ := hrel
    by_cases hlt : k < l.length
    · have d1 : decide ((k : Int) < (l.length : Int)) = true := decide_eq_true (by omega)
      obtain ⟨a, x, rfl, ka, ca, hx⟩ := (h.keep (K' := K) (fun b hb => hB.block b (hK b hb)) (fun _ h => h)).ints hlt
      go_wp2_with (at_builtin; refine wpList_append_row _ rfl (.tmp 11) (.tmp 17) 22 rfl 53 i0 _ 6 _ Tryz.underlying22 hi hz hz1 hz2 rfl _ g k _ rfl (hrow.keep (fun e => heap_alloc_old wr _ (hg e).2)) ⟨wr.heap.size, 0, none⟩ 1 1 (enV (enT x) none 0) rfl rfl (news_new wr (enV (enT x) none 0) 53) (enV_one _ _ _) (by unfold maxLen; omega) (by omega) (by decide) ?_; intro v2 w3 g2 hrow2 hgr hv2 hg2 hlt2)
      obtain ⟨cap2, rfl⟩ := hrow2.form hv2
      have HR : Hid (rowT (l.take k) ++ enV (enT x) none 0 = rowT (l.take (k + 1))) := by
        rw [← rowT_snoc, List.take_add_one, hx.out]; exact rfl
      rw [HR.out] at hrow2
      have hgN : w.heap.size ≤ g2 := by
        rcases hg2 with e | ⟨e, e'⟩
        · rw [e]; have := hB.size; simp; omega
        · rw [e]; exact (hg e').1
      have hB2 : Below w.heap.size w w3 := (hB.alloc hB.size _).grown hgr (by have := hB.size; simp; omega) (fun j e => by
        have e2 : u3.ownBlock = some j := e
        rcases hrow.ownB with e' | e'
        · rw [e'] at e2; cases e2
        · have := (hg e').1
          rw [e'] at e2
          injection e2 with e2
          omega)
      clear hrow hgr hg2 hv2
      go_wp2_with fail
      go_roundw
      case rel => exact ⟨k + 1, g2, by omega, by go_num, hrow2, fun _ => ⟨hgN, hlt2⟩, hB2⟩
      case measure => simp [intOf]; omega
    · have d1 : decide ((k : Int) < (l.length : Int)) = false := decide_eq_false (by omega)
      obtain rfl : k = l.length := by omega
      rw [List.take_length] at hrow
      obtain ⟨A', c', rfl, hE⟩ := rowT_ents hrow hg
      go_wp2_with fail
      go_ret
      exact ⟨A', c', by simp, hE, hB⟩

theorem fromI_one (es : List En) : fromI es 1 = es := by unfold fromI; simp
theorem SameEntries_fresh (w w1 w2 : World) (A B : Option Addr) (c d : Nat) (xs ys : List En) (ha : Ents w1 (Fresh w w1) A c xs) (hb : Ents w2 (Fresh w1 w2) B d ys) (hB : Below w1.heap.size w1 w2) :
    Calls Tryz.prog 15 #[.slice A xs.length c, .slice B ys.length d] w2 fun x w' => x = .returned (.bool (decide (xs = ys))) ∧ Below w2.heap.size w2 w' :=
  SameEntries_any (fun b => b < w1.heap.size) (fun b => b < w2.heap.size) A B c d xs ys w2 (ha.keep (fun b hb => hB.block b hb.2) (fun b hb => hb.2)) (hb.keep (fun _ _ => rfl) (fun b hb => hb.2)) (fun b hb => Nat.lt_of_lt_of_le hb hB.size) (fun b hb => hb)
theorem has_any (B T : Nat) (K : Nat → Prop) (A : Option Addr) (c : Nat) (l : List Int) (w : World) (p : Nat) (es : List En) (h : HasT B T w p es) (hes : es.length ≤ 100000) (hd : ∀ e ∈ es, e.data.length ≤ 100000000) (ha : Rd w K A c (i64s l)) (hK : ∀ b, K b → b < w.heap.size) (hl : l.length ≤ 100000) :
    Calls Tryz.prog 21 #[.pointer (some ⟨p, 0, none⟩), .slice A l.length c] w fun x w' => x = .returned (.bool (decide (es.take 1000 = l.map enT))) ∧ Below w.heap.size w w' := by
  go_enter Tryz.func21, Tryz.ntmps21
  go_wp2_with fail
  refine (From_any 0 w p es 1 1000 h.has hes hd (by decide)).mono ?_
  rintro _ w1 ⟨A1, c1, rfl, hE1, hB1⟩
  rw [fromI_one] at hE1 ⊢
  obtain ⟨xs, hxs⟩ : ∃ xs, xs = es.take (Int.toNat 1000) := ⟨_, rfl⟩
  obtain ⟨ys, hys⟩ : ∃ ys, ys = l.map enT := ⟨_, rfl⟩
  have HX : Hid (decide (xs = ys) = decide (es.take 1000 = l.map enT)) := by rw [hxs, hys]; exact rfl
  have hcon := terms_any K A c l w1 (ha.keep (fun b hb => hB1.block b (hK b hb)) (fun _ h => h)) (fun b hb => Nat.lt_of_lt_of_le (hK b hb) hB1.size) hl
  rw [← hxs] at hE1 ⊢
  rw [← hys] at hcon
  clear hxs hys
  go_wp2_with fail
  refine hcon.mono ?_
  rintro _ w2 ⟨A2, c2, rfl, hE2, hB2⟩
  go_wp2_with fail
  refine (SameEntries_fresh w w1 w2 A1 A2 c1 c2 _ _ hE1 hE2 hB2).mono ?_
  rintro _ w3 ⟨rfl, hB3⟩
  rw [HX.out]
  go_wp2_with fail
  go_ret
  exact ⟨rfl, hB1.trans ((hB2.mono hB1.size).trans (hB3.mono (Nat.le_trans hB1.size hB2.size)))⟩
end Go.Proofs.YtcbomcbflmgmhaaGreat
