/- text, the walk: what a line's row is in memory; words, labels, what is thrown, taking a token. -/
import Derived.Test.YtjebjninlejoeaaGreatDoorXShelf
import Derived.Test.YtjebjninlejoeaaGreatDoorDMap
import Derived.Test.YtjebjninlejoeaaGreatDoorP8
import Derived.Lib.ItoaMem
import Derived.Lib.SmallJoins
import Derived.Lib.AppendIntMem
import Derived.WalkLawsBesides
namespace Go.Proofs.YtjebjninlejoeaaGreatDoor
open Go.RowKit Go.Maps Go.ChangeMaps
set_option linter.unusedVariables false
set_option linter.unusedSimpArgs false
set_option maxRecDepth 100000

theorem gPow : Tryz.prog.globalNamed "internal/strconv.uint64pow10" = some 6 := by kernel_rfl
theorem gSp : Tryz.prog.globalNamed "strings.asciiSpace" = some 2 := by kernel_rfl
theorem gSy : Tryz.prog.globalNamed "strconv.ErrSyntax" = some 7 := by kernel_rfl
theorem gRa : Tryz.prog.globalNamed "strconv.ErrRange" = some 8 := by kernel_rfl
/-- The library's variables that are read, in blocks below B. -/
structure Tv (B : Nat) (w : World) : Prop where
  lt : 6 < B ∧ 2 < B ∧ 7 < B ∧ 8 < B ∧ 0 < B
  pow : Lib.TabIs Tryz.prog w "internal/strconv.uint64pow10" .u64 Lib.pow10Tab
  sp : Lib.TabIs Tryz.prog w "strings.asciiSpace" .u8 Lib.asciiSpaceTab
  sy : ∃ tp p, w.var? Tryz.prog "strconv.ErrSyntax" = some #[.iface tp p]
  ra : ∃ tp p, w.var? Tryz.prog "strconv.ErrRange" = some #[.iface tp p]
  ml : ∃ m, w.cell? ⟨0, 0, none⟩ = some (.int .i64 m)
theorem var_keep {P : Program} {w w' : World} {g : Nat} {n : String} (hg : P.globalNamed n = some g) (h : w'.heap[g]? = w.heap[g]?) : w'.var? P n = w.var? P n := by
  unfold World.var?
  rw [hg]
  simp only [Option.bind_some]
  rw [h]
theorem tab_keep {P : Program} {w w' : World} {g : Nat} {n : String} {k : IntKind} {zs : List Int} (hg : P.globalNamed n = some g) (h : Lib.TabIs P w n k zs) (hb : w'.heap[g]? = w.heap[g]?) : Lib.TabIs P w' n k zs := by
  unfold Lib.TabIs at h ⊢
  rw [var_keep hg hb]
  exact h
theorem Tv.keep {B : Nat} {w w' : World} (h : Tv B w) (hb : ∀ i, i < B → w'.heap[i]? = w.heap[i]?) : Tv B w' := by
  obtain ⟨l1, l2, l3, l4, l5⟩ := h.lt
  refine ⟨h.lt, tab_keep gPow h.pow (hb _ l1), tab_keep gSp h.sp (hb _ l2), ?_, ?_, ?_⟩
  · obtain ⟨tp, p, e⟩ := h.sy
    exact ⟨tp, p, (var_keep gSy (hb _ l3)).trans e⟩
  · obtain ⟨tp, p, e⟩ := h.ra
    exact ⟨tp, p, (var_keep gRa (hb _ l4)).trans e⟩
  · obtain ⟨m, e⟩ := h.ml
    exact ⟨m, (World.cell?_of_block (hb _ l5)).trans e⟩
theorem Tv.below {B N : Nat} {w w' : World} (h : Tv B w) (hb : Below N w w') (hN : B ≤ N) : Tv B w' := h.keep fun i hi => hb.block i (Nat.lt_of_lt_of_le hi hN)
theorem Tv.drew {B : Nat} {w : World} (h : Tv B w) : Tv B w.drew := h.keep fun _ _ => rfl
theorem Tv.ag {B : Nat} {K : Nat → Prop} {w w' : World} (h : Tv B w) (hb : Ag K w w') (hB : B ≤ w.heap.size) (hK : ∀ i, i < B → K i) : Tv B w' := h.keep fun i hi => hb.block i (Nat.lt_of_lt_of_le hi hB) (hK i hi)
theorem itoa_any {B : Nat} (n : Int) (h0 : -9223372036854775808 ≤ n) (h1 : n ≤ 9223372036854775807) (w : World) (ht : Tv B w) :
    Calls Tryz.prog 64 #[.int .i64 n] w fun e w' => e = .returned (.string ⟨(Lib.itoa n).toArray⟩) ∧ Below w.heap.size w w' :=
  (Tryz.strconv_Itoa n h0 h1 w ht.pow).mono fun e w' ⟨he, k, os, hw⟩ => ⟨he, by rw [hw]; exact Lib.below_grow _ w (Nat.le_refl _) k os⟩
/-- A token: a word, or a sign. -/
def TokOk (t : Nm) : Prop := t ≠ [] ∧ t.length ≤ 1000000000 ∧ (t.all wordC = true ∨ ∃ c, t = [c] ∧ signC c = true)
/-- What is thrown of a line. -/
def ftV (e n : Int) : Value := .agg #[.int .i64 e, .int .i64 n]
def Thrown (e n : Int) : Ending := .panicked [{ v := .iface 26 (ftV e n), recovered := false }]
/-- A slice of texts, of which just these lie there, in blocks of K. -/
def Txs (w : World) (K : Nat → Prop) (A : Option Addr) (c : Nat) (l : List Nm) : Prop :=
  l.length ≤ c ∧ (l ≠ [] → ∃ g o, A = some ⟨g, o, none⟩ ∧ K g ∧ ∀ (j : Nat) (t : Nm), l[j]? = some t → w.cell? ⟨g, o + j, none⟩ = some (.string ⟨t.toArray⟩))
theorem Txs.keep {w w' : World} {K K' : Nat → Prop} {c : Nat} {A : Option Addr} {l : List Nm} (h : Txs w K A c l) (hk : ∀ b, K b → w'.heap[b]? = w.heap[b]?) (hK : ∀ b, K b → K' b) : Txs w' K' A c l := by
  obtain ⟨h1, h2⟩ := h
  refine ⟨h1, fun hx => ?_⟩
  obtain ⟨g, o, e, hg, hc⟩ := h2 hx
  exact ⟨g, o, e, hK g hg, fun j t ht => (World.cell?_of_block (hk g hg)).trans (hc j t ht)⟩
theorem Txs.tail {w : World} {K : Nat → Prop} {c : Nat} {A : Option Addr} {s : Nm} {t : List Nm} (h : Txs w K A c (s :: t)) :
    ∃ g o, A = some ⟨g, o, none⟩ ∧ K g ∧ w.cell? ⟨g, o, none⟩ = some (.string ⟨s.toArray⟩) ∧ (c = 1 → t = []) ∧ (∀ B, t = [] → Txs w K B (c - 1) t) ∧ Txs w K (some ⟨g, o + 1, none⟩) (c - 1) t := by
  obtain ⟨h1, h2⟩ := h
  obtain ⟨g, o, e, hg, hc⟩ := h2 (by simp)
  simp only [List.length_cons] at h1
  refine ⟨g, o, e, hg, hc 0 s rfl, fun e => List.eq_nil_of_length_eq_zero (by omega), fun B e => ⟨by omega, fun hx => absurd e hx⟩, by omega, fun _ => ⟨g, o + 1, rfl, hg, fun j x hx => ?_⟩⟩
  have := hc (j + 1) x (by simpa using hx)
  rwa [show o + (j + 1) = o + 1 + j by omega] at this
/-- A row of tokens: what is left of it, and its line. -/
structure RowAt (w : World) (N : Nat) (K : Nat → Prop) (l : List Nm) (n : Int) : Prop where
  row : ∃ A c, Bk w N 121 [.slice A l.length c, .int .i64 n] ∧ Txs w K A c l
  apart : ¬ K N
  ok : ∀ t ∈ l, TokOk t
  len : l.length ≤ 1000000000
theorem RowAt.keep {w w' : World} {N : Nat} {K : Nat → Prop} {l : List Nm} {n : Int} (h : RowAt w N K l n) (hk : ∀ b, b < w.heap.size → b = N ∨ K b → w'.heap[b]? = w.heap[b]?) : RowAt w' N K l n := by
  obtain ⟨A, c, h1, h2, h3⟩ := h.row
  refine ⟨⟨A, c, (hk N h1.lt (.inl rfl)).trans h1, h2, fun hx => ?_⟩, h.apart, h.ok, h.len⟩
  obtain ⟨g, o, e, hg, hc⟩ := h3 hx
  refine ⟨g, o, e, hg, fun j t ht => ?_⟩
  have := hc j t ht
  exact (World.cell?_of_block (hk g (World.block_lt_of_cell? w _ this) (.inr hg))).trans this
theorem RowAt.below {w w' : World} {N : Nat} {K : Nat → Prop} {l : List Nm} {n : Int} (h : RowAt w N K l n) (hb : Below w.heap.size w w') : RowAt w' N K l n := h.keep fun b hl _ => hb.block b hl
theorem u8_le (a b : UInt8) : (decide ((a.toNat : Int) ≤ (b.toNat : Int))) = decide (a ≤ b) := by
  simp [UInt8.le_iff_toNat_le]
theorem word_any (c : UInt8) (w : World) : Calls Tryz.prog 139 #[.int .u8 (c.toNat : Int)] w fun e w' => e = .returned (.bool (wordC c)) ∧ w' = w := by
  have e1 : decide ((97 : Int) ≤ (c.toNat : Int)) = decide (97 ≤ c) := u8_le 97 c
  have e2 : decide ((c.toNat : Int) ≤ 122) = decide (c ≤ 122) := u8_le c 122
  have e3 : decide ((48 : Int) ≤ (c.toNat : Int)) = decide (48 ≤ c) := u8_le 48 c
  have e4 : decide ((c.toNat : Int) ≤ 57) = decide (c ≤ 57) := u8_le c 57
  have e5 : decide ((c.toNat : Int) = 95) = decide (c = 95) := by
    by_cases h : c = 95
    · subst h; rfl
    · have : ¬ ((c.toNat : Int) = 95) := fun e => h (UInt8.toNat.inj (by show c.toNat = 95; omega))
      simp [h, this]
  unfold wordC
  rw [← e1, ← e2, ← e3, ← e4, ← e5]
  clear e1 e2 e3 e4 e5
  generalize (c.toNat : Int) = x
  by_cases h1 : (97 : Int) ≤ x <;> by_cases h2 : x ≤ 122 <;> by_cases h3 : (48 : Int) ≤ x <;> by_cases h4 : x ≤ 57
  all_goals
    go_enter Tryz.func139, Tryz.ntmps139
    go_wp2_with fail
    go_ret
    refine ⟨?_, rfl⟩
    show Ending.returned (Value.bool _) = Ending.returned (Value.bool _)
    first
      | rfl
      | (congr 2
         rw [Bool.eq_iff_iff]
         simp [h1, h2, h3, h4]
         try omega)
theorem label_any (s : Nm) (hs : s.length ≤ 1000000000) (w : World) : Calls Tryz.prog 128 #[.string ⟨s.toArray⟩] w fun e w' => e = .returned (.bool (labelP s)) ∧ w' = w := by
  cases s with
  | nil =>
    go_enter Tryz.func128, Tryz.ntmps128
    go_wp2_with fail
    go_ret
    exact ⟨rfl, rfl⟩
  | cons c t =>
    have hl : (c :: t).length = t.length + 1 := rfl
    have hx : ((⟨(c :: t).toArray⟩ : ByteArray).size : Int) = (t.length : Int) + 1 := by show (((c :: t).toArray.size : Nat) : Int) = _; simp
    have hi : ∀ w, (Instr.index 9 (.string ⟨(c :: t).toArray⟩) (.int .i64 0)).run Tryz.prog w = .ok (.int .u8 (c.toNat : Int)) w := fun w => by
      unfold Instr.index
      go_simp
      rfl
    unfold labelP
    simp only [← u8_le]
    rw [hl]
    have e3 : decide ((t.length : Int) + 1 ≤ 30) = decide (t.length + 1 ≤ 30) := by
      by_cases h : t.length + 1 ≤ 30
      · rw [decide_eq_true h, decide_eq_true (by omega)]
      · rw [decide_eq_false h, decide_eq_false (by omega)]
    have e4 : (((97 : UInt8).toNat : Nat) : Int) = 97 := rfl
    have e5 : (((122 : UInt8).toNat : Nat) : Int) = 122 := rfl
    rw [← e3, e4, e5]
    by_cases h1 : (t.length : Int) + 1 ≤ 30 <;> by_cases h2 : (97 : Int) ≤ (c.toNat : Int) <;> by_cases h3 : (c.toNat : Int) ≤ 122
    all_goals
      go_enter Tryz.func128, Tryz.ntmps128
      go_wp2_with fail
      go_ret
      refine ⟨?_, rfl⟩
      show Ending.returned (Value.bool _) = Ending.returned (Value.bool _)
      first
        | rfl
        | (congr 2
           rw [Bool.eq_iff_iff]
           simp [h1, h2, h3]
           try omega)
theorem throw_any (e n : Int) (w : World) : Calls Tryz.prog 70 #[.int .i64 e, .int .i64 n] w fun x w' => x = Thrown e n ∧ w' = w := by
  go_enter Tryz.func70, Tryz.ntmps70
  go_wp2_with fail
  exact ⟨rfl, rfl, rfl⟩
section
variable {w : World} {N : Nat} {K : Nat → Prop} {l : List Nm} {n : Int} (h : RowAt w N K l n)
include h
theorem bad_any : Calls Tryz.prog 69 #[.pointer (some ⟨N, 0, none⟩)] w fun x w' => x = Thrown 120 n ∧ w' = w := by
  obtain ⟨A, c, hb, hr⟩ := h.row
  have c1 := hb.cell 1
  simp only [List.getElem?_cons_zero, List.getElem?_cons_succ] at c1
  go_enter Tryz.func69, Tryz.ntmps69
  go_wp2_with fail
  refine (throw_any 120 n w).mono ?_
  rintro _ w1 ⟨rfl, rfl⟩
  exact ⟨rfl, rfl, rfl⟩
theorem next_any : Calls Tryz.prog 129 #[.pointer (some ⟨N, 0, none⟩)] w fun x w' => x = .returned (.string ⟨(l.headD []).toArray⟩) ∧ w' = w := by
  obtain ⟨A, c, hb, hr⟩ := h.row
  have c0 := hb.cell 0
  have hn := h.len
  simp only [List.getElem?_cons_zero, List.getElem?_cons_succ] at c0
  cases l with
  | nil =>
    go_enter Tryz.func129, Tryz.ntmps129
    go_wp2_with fail
    go_ret
    exact ⟨rfl, rfl⟩
  | cons s t =>
    obtain ⟨g, o, rfl, hk, ca, _⟩ := hr.tail
    have q1 : (0 : Int) < (t.length : Int) + 1 := by omega
    have q2 : decide ((t.length : Int) + 1 = 0) = false := decide_eq_false (by omega)
    simp only [List.length_cons] at c0 hn
    go_enter Tryz.func129, Tryz.ntmps129
    go_wp2_with fail
    go_ret
    exact ⟨rfl, rfl⟩
/-- Taking the next token, whatever it is. -/
theorem take_any (hT : N < w.heap.size) : Calls Tryz.prog 68 #[.pointer (some ⟨N, 0, none⟩), .slice none 0 0] w fun x w' => match l with
    | [] => x = Thrown 120 n ∧ w' = w
    | s :: t => x = .returned (.string ⟨s.toArray⟩) ∧ RowAt w' N K t n ∧ Ag (fun b => b ≠ N) w w' := by
  have hnext := next_any h
  have hbad := bad_any h
  obtain ⟨A, c, hb, hr⟩ := h.row
  have c0 := hb.cell 0
  have f0 := hb.frozen 0
  have hn := h.len
  simp only [List.getElem?_cons_zero, List.getElem?_cons_succ] at c0
  cases l with
  | nil =>
    go_enter Tryz.func68, Tryz.ntmps68
    go_wp2_with fail
    refine hnext.mono ?_
    rintro _ w1 ⟨rfl, rfl⟩
    go_wp2_with fail
    refine hbad.mono ?_
    rintro _ w1 ⟨rfl, rfl⟩
    exact ⟨rfl, rfl, rfl⟩
  | cons s t =>
    obtain ⟨g, o, rfl, hk, ca, hc1, ht0, ht⟩ := hr.tail
    have hs := (h.ok s (List.mem_cons_self ..)).1
    have q1 : (1 : Int) ≤ (t.length : Int) + 1 := by omega
    simp only [List.length_cons] at c0 hn
    have hok : ∀ x ∈ t, TokOk x := fun x hx => h.ok x (List.mem_cons_of_mem _ hx)
    have hap := h.apart
    have hg : g ≠ N := fun e => hap (e ▸ hk)
    have H : ∀ A' : Option Addr, Txs w K A' (c - 1) t → RowAt (w.setCell ⟨N, 0, none⟩ (.slice A' t.length (c - 1))) N K t n ∧ Ag (fun b => b ≠ N) w (w.setCell ⟨N, 0, none⟩ (.slice A' t.length (c - 1))) := by
      intro A' hA
      refine ⟨⟨⟨A', c - 1, ?_, hA.keep (fun b hb => Below.heap_setCell w _ _ b (fun e => hap (by have e : b = N := e; rw [← e]; exact hb))) (fun _ hb => hb)⟩, hap, hok, by omega⟩, (Ag.refl _ w).setCell (fun _ q => q rfl) _⟩
      have := hb.set 0 (.slice A' t.length (c - 1))
      simpa using this
    have hse : List.isEmpty s = false := by cases s with | nil => exact absurd rfl hs | cons a b => rfl
    by_cases hc : c = 1
    · have ht2 := hc1 hc
      subst hc ht2
      go_enter Tryz.func68, Tryz.ntmps68
      go_wp2_with fail
      refine hnext.mono ?_
      rintro _ w1 ⟨rfl, rfl⟩
      simp only [List.headD_cons]
      go_wp2_with fail
      go_ret
      exact ⟨rfl, H _ (ht0 _ (by first | rfl | trivial))⟩
    · go_enter Tryz.func68, Tryz.ntmps68
      go_wp2_with fail
      refine hnext.mono ?_
      rintro _ w1 ⟨rfl, rfl⟩
      simp only [List.headD_cons]
      go_wp2_with fail
      go_ret
      exact ⟨rfl, H _ ht⟩
/-- Taking the next token, which must be one of these. -/
theorem takeM_any (hT : N < w.heap.size) (ms : List Nm) (gm cm : Nat) (hm0 : ms ≠ []) (hml : ms.length ≤ 1000) (hm : ∀ (j : Nat) m, ms[j]? = some m → w.cell? ⟨gm, j, none⟩ = some (.string ⟨m.toArray⟩)) : Calls Tryz.prog 68 #[.pointer (some ⟨N, 0, none⟩), .slice (some ⟨gm, 0, none⟩) ms.length cm] w fun x w' => match l with
    | [] => x = Thrown 120 n ∧ w' = w
    | s :: t => if s ∈ ms then x = .returned (.string ⟨s.toArray⟩) ∧ RowAt w' N K t n ∧ Ag (fun b => b ≠ N) w w' else x = Thrown 120 n ∧ w' = w := by
  have hnext := next_any h
  have hbad := bad_any h
  obtain ⟨A, c, hb, hr⟩ := h.row
  have c0 := hb.cell 0
  have f0 := hb.frozen 0
  have hn := h.len
  have hm1 : 1 ≤ ms.length := List.length_pos_iff.2 hm0
  have hm2 : decide ((0 : Int) < (ms.length : Int)) = true := decide_eq_true (by omega)
  simp only [List.getElem?_cons_zero, List.getElem?_cons_succ] at c0
  cases l with
  | nil =>
    go_enter Tryz.func68, Tryz.ntmps68
    go_wp2_with fail
    refine hnext.mono ?_
    rintro _ w1 ⟨rfl, rfl⟩
    go_wp2_with fail
    refine hbad.mono ?_
    rintro _ w1 ⟨rfl, rfl⟩
    exact ⟨rfl, rfl, rfl⟩
  | cons s t =>
    obtain ⟨g, o, rfl, hk, ca, hc1, ht0, ht⟩ := hr.tail
    have hs := (h.ok s (List.mem_cons_self ..)).1
    have q1 : (1 : Int) ≤ (t.length : Int) + 1 := by omega
    simp only [List.length_cons] at c0 hn
    have hok : ∀ x ∈ t, TokOk x := fun x hx => h.ok x (List.mem_cons_of_mem _ hx)
    have hap := h.apart
    have hg : g ≠ N := fun e => hap (e ▸ hk)
    have H : ∀ A' : Option Addr, Txs w K A' (c - 1) t → RowAt (w.setCell ⟨N, 0, none⟩ (.slice A' t.length (c - 1))) N K t n ∧ Ag (fun b => b ≠ N) w (w.setCell ⟨N, 0, none⟩ (.slice A' t.length (c - 1))) := by
      intro A' hA
      refine ⟨⟨⟨A', c - 1, ?_, hA.keep (fun b hb => Below.heap_setCell w _ _ b (fun e => hap (by have e : b = N := e; rw [← e]; exact hb))) (fun _ hb => hb)⟩, hap, hok, by omega⟩, (Ag.refl _ w).setCell (fun _ q => q rfl) _⟩
      have := hb.set 0 (.slice A' t.length (c - 1))
      simpa using this
    have hse : List.isEmpty s = false := by cases s with | nil => exact absurd rfl hs | cons a b => rfl
    have hcon := Tryz.slices_Contains_string gm 0 ms.length cm (ms.map fun m => (⟨m.toArray⟩ : ByteArray)) ⟨s.toArray⟩ w (by simp) (by omega) (fun j hj => by
      rw [List.length_map] at hj
      rw [Nat.zero_add, hm j ms[j] (List.getElem?_eq_getElem hj)]
      simp [List.getD_eq_getElem?_getD, hj])
    obtain ⟨b, hbq, hbm⟩ : ∃ b : Bool, Lib.containsS ((ms.map fun m => (⟨m.toArray⟩ : ByteArray)).take ms.length) ⟨s.toArray⟩ = b ∧ (b = true ↔ s ∈ ms) := by
      refine ⟨_, rfl, ?_⟩
      rw [List.take_of_length_le (by simp)]
      rw [Lib.containsS_iff, List.mem_map]
      constructor
      · rintro ⟨m, hm, e⟩
        have : m = s := by simpa using e
        exact this ▸ hm
      · exact fun q => ⟨s, q, rfl⟩
    rw [hbq] at hcon
    clear hbq
    cases b with
    | false =>
      have hno : s ∉ ms := fun q => by simp [q] at hbm
      simp only [hno, if_false]
      go_enter Tryz.func68, Tryz.ntmps68
      go_wp2_with fail
      refine hnext.mono ?_
      rintro _ w1 ⟨rfl, rfl⟩
      simp only [List.headD_cons]
      go_wp2_with fail
      refine hcon.mono ?_
      rintro _ w1 ⟨rfl, rfl⟩
      go_wp2_with fail
      refine hbad.mono ?_
      rintro _ w1 ⟨rfl, rfl⟩
      exact ⟨rfl, rfl, rfl⟩
    | true =>
      have hyes : s ∈ ms := hbm.1 rfl
      clear hbm
      simp only [hyes, if_true]
      by_cases hc : c = 1
      · have ht2 := hc1 hc
        subst hc ht2
        go_enter Tryz.func68, Tryz.ntmps68
        go_wp2_with fail
        refine hnext.mono ?_
        rintro _ w1 ⟨rfl, rfl⟩
        simp only [List.headD_cons]
        go_wp2_with fail
        refine hcon.mono ?_
        rintro _ w1 ⟨rfl, rfl⟩
        go_wp2_with fail
        go_ret
        exact ⟨rfl, H _ (ht0 _ (by first | rfl | trivial))⟩
      · go_enter Tryz.func68, Tryz.ntmps68
        go_wp2_with fail
        refine hnext.mono ?_
        rintro _ w1 ⟨rfl, rfl⟩
        simp only [List.headD_cons]
        go_wp2_with fail
        refine hcon.mono ?_
        rintro _ w1 ⟨rfl, rfl⟩
        go_wp2_with fail
        go_ret
        exact ⟨rfl, H _ ht⟩
end
end Go.Proofs.YtjebjninlejoeaaGreatDoor

