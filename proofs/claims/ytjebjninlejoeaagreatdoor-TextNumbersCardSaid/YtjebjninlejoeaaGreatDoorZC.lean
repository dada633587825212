/- text, the walk: what a line's row is in memory; words, labels, what is thrown, taking a token. text, the walk: registers, numbers. -/
import Derived.Test.YtjebjninlejoeaaGreatDoorXShelf
import Derived.Test.YtjebjninlejoeaaGreatDoorDMap
import Derived.Lib.ItoaMem
import Derived.Lib.SmallJoins
import Derived.Lib.AppendIntMem
import Derived.WalkLawsBesides
import Derived.Test.YtjebjninlejoeaaGreatDoorZA
namespace Go.Proofs.YtjebjninlejoeaaGreatDoor
open Go.RowKit Go.Maps Go.ChangeMaps
set_option linter.unusedVariables false
set_option linter.unusedSimpArgs false
set_option maxRecDepth 100000

theorem gPow : Tryz.prog.globalNamed "internal/strconv.uint64pow10" = some 6 := by kernel_rfl
theorem gSp : Tryz.prog.globalNamed "strings.asciiSpace" = some 2 := by kernel_rfl
theorem gSy : Tryz.prog.globalNamed "strconv.ErrSyntax" = some 7 := by kernel_rfl
theorem gRa : Tryz.prog.globalNamed "strconv.ErrRange" = some 8 := by kernel_rfl
/-- The library's variables that are read, in blocks below B. -/
structure Tv (B : Nat) (w : World) : Prop where
  lt : 6 < B ∧ 2 < B ∧ 7 < B ∧ 8 < B ∧ 0 < B
  pow : Lib.TabIs Tryz.prog w "internal/strconv.uint64pow10" .u64 Lib.pow10Tab
  sp : Lib.TabIs Tryz.prog w "strings.asciiSpace" .u8 Lib.asciiSpaceTab
  sy : ∃ tp p, w.var? Tryz.prog "strconv.ErrSyntax" = some #[.iface tp p]
  ra : ∃ tp p, w.var? Tryz.prog "strconv.ErrRange" = some #[.iface tp p]
  ml : ∃ m, w.cell? ⟨0, 0, none⟩ = some (.int .i64 m)
theorem var_keep {P : Program} {w w' : World} {g : Nat} {n : String} (hg : P.globalNamed n = some g) (h : w'.heap[g]? = w.heap[g]?) : w'.var? P n = w.var? P n := by
  unfold World.var?
  rw [hg]
  simp only [Option.bind_some]
  rw [h]
theorem tab_keep {P : Program} {w w' : World} {g : Nat} {n : String} {k : IntKind} {zs : List Int} (hg : P.globalNamed n = some g) (h : Lib.TabIs P w n k zs) (hb : w'.heap[g]? = w.heap[g]?) : Lib.TabIs P w' n k zs := by
  unfold Lib.TabIs at h ⊢
  rw [var_keep hg hb]
  exact h
theorem Tv.keep {B : Nat} {w w' : World} (h : Tv B w) (hb : ∀ i, i < B → w'.heap[i]? = w.heap[i]?) : Tv B w' := by
  obtain ⟨l1, l2, l3, l4, l5⟩ := h.lt
  refine ⟨h.lt, tab_keep gPow h.pow (hb _ l1), tab_keep gSp h.sp (hb _ l2), ?_, ?_, ?_⟩
  · obtain ⟨tp, p, e⟩ := h.sy
    exact ⟨tp, p, (var_keep gSy (hb _ l3)).trans e⟩
  · obtain ⟨tp, p, e⟩ := h.ra
    exact ⟨tp, p, (var_keep gRa (hb _ l4)).trans e⟩
  · obtain ⟨m, e⟩ := h.ml
    exact ⟨m, (World.cell?_of_block (hb _ l5)).trans e⟩
theorem Tv.below {B N : Nat} {w w' : World} (h : Tv B w) (hb : Below N w w') (hN : B ≤ N) : Tv B w' := h.keep fun i hi => hb.block i (Nat.lt_of_lt_of_le hi hN)
theorem Tv.drew {B : Nat} {w : World} (h : Tv B w) : Tv B w.drew := h.keep fun _ _ => rfl
theorem Tv.ag {B : Nat} {K : Nat → Prop} {w w' : World} (h : Tv B w) (hb : Ag K w w') (hB : B ≤ w.heap.size) (hK : ∀ i, i < B → K i) : Tv B w' := h.keep fun i hi => hb.block i (Nat.lt_of_lt_of_le hi hB) (hK i hi)
theorem itoa_any {B : Nat} (n : Int) (h0 : -9223372036854775808 ≤ n) (h1 : n ≤ 9223372036854775807) (w : World) (ht : Tv B w) :
    Calls Tryz.prog 64 #[.int .i64 n] w fun e w' => e = .returned (.string ⟨(Lib.itoa n).toArray⟩) ∧ Below w.heap.size w w' :=
  (Tryz.strconv_Itoa n h0 h1 w ht.pow).mono fun e w' ⟨he, k, os, hw⟩ => ⟨he, by rw [hw]; exact Lib.below_grow _ w (Nat.le_refl _) k os⟩
/-- A token: a word, or a sign. -/
def TokOk (t : Nm) : Prop := t ≠ [] ∧ t.length ≤ 1000000000 ∧ (t.all wordC = true ∨ ∃ c, t = [c] ∧ signC c = true)
/-- What is thrown of a line. -/
def ftV (e n : Int) : Value := .agg #[.int .i64 e, .int .i64 n]
def Thrown (e n : Int) : Ending := .panicked [{ v := .iface 26 (ftV e n), recovered := false }]
/-- A slice of texts, of which just these lie there, in blocks of K. -/
def Txs (w : World) (K : Nat → Prop) (A : Option Addr) (c : Nat) (l : List Nm) : Prop :=
  l.length ≤ c ∧ (l ≠ [] → ∃ g o, A = some ⟨g, o, none⟩ ∧ K g ∧ ∀ (j : Nat) (t : Nm), l[j]? = some t → w.cell? ⟨g, o + j, none⟩ = some (.string ⟨t.toArray⟩))
theorem Txs.keep {w w' : World} {K K' : Nat → Prop} {c : Nat} {A : Option Addr} {l : List Nm} (h : Txs w K A c l) (hk : ∀ b, K b → w'.heap[b]? = w.heap[b]?) (hK : ∀ b, K b → K' b) : Txs w' K' A c l := by
  obtain ⟨h1, h2⟩ := h
  refine ⟨h1, fun hx => ?_⟩
  obtain ⟨g, o, e, hg, hc⟩ := h2 hx
  exact ⟨g, o, e, hK g hg, fun j t ht => (World.cell?_of_block (hk g hg)).trans (hc j t ht)⟩
theorem Txs.tail {w : World} {K : Nat → Prop} {c : Nat} {A : Option Addr} {s : Nm} {t : List Nm} (h : Txs w K A c (s :: t)) :
    ∃ g o, A = some ⟨g, o, none⟩ ∧ K g ∧ w.cell? ⟨g, o, none⟩ = some (.string ⟨s.toArray⟩) ∧ (c = 1 → t = []) ∧ (∀ B, t = [] → Txs w K B (c - 1) t) ∧ Txs w K (some ⟨g, o + 1, none⟩) (c - 1) t := by
  obtain ⟨h1, h2⟩ := h
  obtain ⟨g, o, e, hg, hc⟩ := h2 (by simp)
  simp only [List.length_cons] at h1
  refine ⟨g, o, e, hg, hc 0 s rfl, fun e => List.eq_nil_of_length_eq_zero (by omega), fun B e => ⟨by omega, fun hx => absurd e hx⟩, by omega, fun _ => ⟨g, o + 1, rfl, hg, fun j x hx => ?_⟩⟩
  have := hc (j + 1) x (by simpa using hx)
  rwa [show o + (j + 1) = o + 1 + j by omega] at this
/-- A row of tokens: what is left of it, and its line. -/
structure RowAt (w : World) (N : Nat) (K : Nat → Prop) (l : List Nm) (n : Int) : Prop where
  row : ∃ A c, Bk w N 121 [.slice A l.length c, .int .i64 n] ∧ Txs w K A c l
  apart : ¬ K N
  ok : ∀ t ∈ l, TokOk t
  len : l.length ≤ 1000000000
theorem RowAt.keep {w w' : World} {N : Nat} {K : Nat → Prop} {l : List Nm} {n : Int} (h : RowAt w N K l n) (hk : ∀ b, b < w.heap.size → b = N ∨ K b → w'.heap[b]? = w.heap[b]?) : RowAt w' N K l n := by
  obtain ⟨A, c, h1, h2, h3⟩ := h.row
  refine ⟨⟨A, c, (hk N h1.lt (.inl rfl)).trans h1, h2, fun hx => ?_⟩, h.apart, h.ok, h.len⟩
  obtain ⟨g, o, e, hg, hc⟩ := h3 hx
  refine ⟨g, o, e, hg, fun j t ht => ?_⟩
  have := hc j t ht
  exact (World.cell?_of_block (hk g (World.block_lt_of_cell? w _ this) (.inr hg))).trans this
theorem RowAt.below {w w' : World} {N : Nat} {K : Nat → Prop} {l : List Nm} {n : Int} (h : RowAt w N K l n) (hb : Below w.heap.size w w') : RowAt w' N K l n := h.keep fun b hl _ => hb.block b hl
theorem u8_le (a b : UInt8) : (decide ((a.toNat : Int) ≤ (b.toNat : Int))) = decide (a ≤ b) := by
  simp [UInt8.le_iff_toNat_le]
theorem word_any (c : UInt8) (w : World) : Calls Tryz.prog 139 #[.int .u8 (c.toNat : Int)] w fun e w' => e = .returned (.bool (wordC c)) ∧ w' = w := by
  have e1 : decide ((97 : Int) ≤ (c.toNat : Int)) = decide (97 ≤ c) := u8_le 97 c
  have e2 : decide ((c.toNat : Int) ≤ 122) = decide (c ≤ 122) := u8_le c 122
  have e3 : decide ((48 : Int) ≤ (c.toNat : Int)) = decide (48 ≤ c) := u8_le 48 c
  have e4 : decide ((c.toNat : Int) ≤ 57) = decide (c ≤ 57) := u8_le c 57
  have e5 : decide ((c.toNat : Int) = 95) = decide (c = 95) := by
    by_cases h : c = 95
    · subst h; rfl
    · have : ¬ ((c.toNat : Int) = 95) := fun e => h (UInt8.toNat.inj (by show c.toNat = 95; omega))
      simp [h, this]
  unfold wordC
  rw [← e1, ← e2, ← e3, ← e4, ← e5]
  clear e1 e2 e3 e4 e5
  generalize (c.toNat : Int) = x
  by_cases h1 : (97 : Int) ≤ x <;> by_cases h2 : x ≤ 122 <;> by_cases h3 : (48 : Int) ≤ x <;> by_cases h4 : x ≤ 57
  all_goals
    go_enter Tryz.func139, Tryz.ntmps139
    go_wp2_with fail
    go_ret
    refine ⟨?_, rfl⟩
    show Ending.returned (Value.bool _) = Ending.returned (Value.bool _)
    first
      | rfl
      | (congr 2
         rw [Bool.eq_iff_iff]
         simp [h1, h2, h3, h4]
         try omega)
theorem label_any (s : Nm) (hs : s.length ≤ 1000000000) (w : World) : Calls Tryz.prog 128 #[.string ⟨s.toArray⟩] w fun e w' => e = .returned (.bool (labelP s)) ∧ w' = w := by
  cases s with
  | nil =>
    go_enter Tryz.func128, Tryz.ntmps128
    go_wp2_with fail
    go_ret
    exact ⟨rfl, rfl⟩
  | cons c t =>
    have hl : (c :: t).length = t.length + 1 := rfl
    have hx : ((⟨(c :: t).toArray⟩ : ByteArray).size : Int) = (t.length : Int) + 1 := by show (((c :: t).toArray.size : Nat) : Int) = _; simp
    have hi : ∀ w, (Instr.index 9 (.string ⟨(c :: t).toArray⟩) (.int .i64 0)).run Tryz.prog w = .ok (.int .u8 (c.toNat : Int)) w := fun w => by
      unfold Instr.index
      go_simp
      rfl
    unfold labelP
    simp only [← u8_le]
    rw [hl]
    have e3 : decide ((t.length : Int) + 1 ≤ 30) = decide (t.length + 1 ≤ 30) := by
      by_cases h : t.length + 1 ≤ 30
      · rw [decide_eq_true h, decide_eq_true (by omega)]
      · rw [decide_eq_false h, decide_eq_false (by omega)]
    have e4 : (((97 : UInt8).toNat : Nat) : Int) = 97 := rfl
    have e5 : (((122 : UInt8).toNat : Nat) : Int) = 122 := rfl
    rw [← e3, e4, e5]
    by_cases h1 : (t.length : Int) + 1 ≤ 30 <;> by_cases h2 : (97 : Int) ≤ (c.toNat : Int) <;> by_cases h3 : (c.toNat : Int) ≤ 122
    all_goals
      go_enter Tryz.func128, Tryz.ntmps128
      go_wp2_with fail
      go_ret
      refine ⟨?_, rfl⟩
      show Ending.returned (Value.bool _) = Ending.returned (Value.bool _)
      first
        | rfl
        | (congr 2
           rw [Bool.eq_iff_iff]
           simp [h1, h2, h3]
           try omega)
theorem throw_any (e n : Int) (w : World) : Calls Tryz.prog 70 #[.int .i64 e, .int .i64 n] w fun x w' => x = Thrown e n ∧ w' = w := by
  go_enter Tryz.func70, Tryz.ntmps70
  go_wp2_with fail
  exact ⟨rfl, rfl, rfl⟩
section
variable {w : World} {N : Nat} {K : Nat → Prop} {l : List Nm} {n : Int} (h : RowAt w N K l n)
include h
theorem bad_any : Calls Tryz.prog 69 #[.pointer (some ⟨N, 0, none⟩)] w fun x w' => x = Thrown 120 n ∧ w' = w := by
  obtain ⟨A, c, hb, hr⟩ := h.row
  have c1 := hb.cell 1
  simp only [List.getElem?_cons_zero, List.getElem?_cons_succ] at c1
  go_enter Tryz.func69, Tryz.ntmps69
  go_wp2_with fail
  refine (throw_any 120 n w).mono ?_
  rintro _ w1 ⟨rfl, rfl⟩
  exact ⟨rfl, rfl, rfl⟩
theorem next_any : Calls Tryz.prog 129 #[.pointer (some ⟨N, 0, none⟩)] w fun x w' => x = .returned (.string ⟨(l.headD []).toArray⟩) ∧ w' = w := by
  obtain ⟨A, c, hb, hr⟩ := h.row
  have c0 := hb.cell 0
  have hn := h.len
  simp only [List.getElem?_cons_zero, List.getElem?_cons_succ] at c0
  cases l with
  | nil =>
    go_enter Tryz.func129, Tryz.ntmps129
    go_wp2_with fail
    go_ret
    exact ⟨rfl, rfl⟩
  | cons s t =>
    obtain ⟨g, o, rfl, hk, ca, _⟩ := hr.tail
    have q1 : (0 : Int) < (t.length : Int) + 1 := by omega
    have q2 : decide ((t.length : Int) + 1 = 0) = false := decide_eq_false (by omega)
    simp only [List.length_cons] at c0 hn
    go_enter Tryz.func129, Tryz.ntmps129
    go_wp2_with fail
    go_ret
    exact ⟨rfl, rfl⟩
/-- Taking the next token, whatever it is. -/
theorem take_any (hT : N < w.heap.size) : Calls Tryz.prog 68 #[.pointer (some ⟨N, 0, none⟩), .slice none 0 0] w fun x w' => match l with
    | [] => x = Thrown 120 n ∧ w' = w
    | s :: t => x = .returned (.string ⟨s.toArray⟩) ∧ RowAt w' N K t n ∧ Ag (fun b => b ≠ N) w w' := by
  have hnext := next_any h
  have hbad := bad_any h
  obtain ⟨A, c, hb, hr⟩ := h.row
  have c0 := hb.cell 0
  have f0 := hb.frozen 0
  have hn := h.len
  simp only [List.getElem?_cons_zero, List.getElem?_cons_succ] at c0
  cases l with
  | nil =>
    go_enter Tryz.func68, Tryz.ntmps68
    go_wp2_with fail
    refine hnext.mono ?_
    rintro _ w1 ⟨rfl, rfl⟩
    go_wp2_with fail
    refine hbad.mono ?_
    rintro _ w1 ⟨rfl, rfl⟩
    exact ⟨rfl, rfl, rfl⟩
  | cons s t =>
    obtain ⟨g, o, rfl, hk, ca, hc1, ht0, ht⟩ := hr.tail
    have hs := (h.ok s (List.mem_cons_self ..)).1
    have q1 : (1 : Int) ≤ (t.length : Int) + 1 := by omega
    simp only [List.length_cons] at c0 hn
    have hok : ∀ x ∈ t, TokOk x := fun x hx => h.ok x (List.mem_cons_of_mem _ hx)
    have hap := h.apart
    have hg : g ≠ N := fun e => hap (e ▸ hk)
    have H : ∀ A' : Option Addr, Txs w K A' (c - 1) t → RowAt (w.setCell ⟨N, 0, none⟩ (.slice A' t.length (c - 1))) N K t n ∧ Ag (fun b => b ≠ N) w (w.setCell ⟨N, 0, none⟩ (.slice A' t.length (c - 1))) := by
      intro A' hA
      refine ⟨⟨⟨A', c - 1, ?_, hA.keep (fun b hb => Below.heap_setCell w _ _ b (fun e => hap (by have e : b = N := e; rw [← e]; exact hb))) (fun _ hb => hb)⟩, hap, hok, by omega⟩, (Ag.refl _ w).setCell (fun _ q => q rfl) _⟩
      have := hb.set 0 (.slice A' t.length (c - 1))
      simpa using this
    have hse : List.isEmpty s = false := by cases s with | nil => exact absurd rfl hs | cons a b => rfl
    by_cases hc : c = 1
    · have ht2 := hc1 hc
      subst hc ht2
      go_enter Tryz.func68, Tryz.ntmps68
      go_wp2_with fail
      refine hnext.mono ?_
      rintro _ w1 ⟨rfl, rfl⟩
      simp only [List.headD_cons]
      go_wp2_with fail
      go_ret
      exact ⟨rfl, H _ (ht0 _ (by first | rfl | trivial))⟩
    · go_enter Tryz.func68, Tryz.ntmps68
      go_wp2_with fail
      refine hnext.mono ?_
      rintro _ w1 ⟨rfl, rfl⟩
      simp only [List.headD_cons]
      go_wp2_with fail
      go_ret
      exact ⟨rfl, H _ ht⟩
/-- Taking the next token, which must be one of these. -/
theorem takeM_any (hT : N < w.heap.size) (ms : List Nm) (gm cm : Nat) (hm0 : ms ≠ []) (hml : ms.length ≤ 1000) (hm : ∀ (j : Nat) m, ms[j]? = some m → w.cell? ⟨gm, j, none⟩ = some (.string ⟨m.toArray⟩)) : Calls Tryz.prog 68 #[.pointer (some ⟨N, 0, none⟩), .slice (some ⟨gm, 0, none⟩) ms.length cm] w fun x w' => match l with
    | [] => x = Thrown 120 n ∧ w' = w
    | s :: t => if s ∈ ms then x = .returned (.string ⟨s.toArray⟩) ∧ RowAt w' N K t n ∧ Ag (fun b => b ≠ N) w w' else x = Thrown 120 n ∧ w' = w := by
  have hnext := next_any h
  have hbad := bad_any h
  obtain ⟨A, c, hb, hr⟩ := h.row
  have c0 := hb.cell 0
  have f0 := hb.frozen 0
  have hn := h.len
  have hm1 : 1 ≤ ms.length := List.length_pos_iff.2 hm0
  have hm2 : decide ((0 : Int) < (ms.length : Int)) = true := decide_eq_true (by omega)
  simp only [List.getElem?_cons_zero, List.getElem?_cons_succ] at c0
  cases l with
  | nil =>
    go_enter Tryz.func68, Tryz.ntmps68
    go_wp2_with fail
    refine hnext.mono ?_
    rintro _ w1 ⟨rfl, rfl⟩
    go_wp2_with fail
    refine hbad.mono ?_
    rintro _ w1 ⟨rfl, rfl⟩
    exact ⟨rfl, rfl, rfl⟩
  | cons s t =>
    obtain ⟨g, o, rfl, hk, ca, hc1, ht0, ht⟩ := hr.tail
    have hs := (h.ok s (List.mem_cons_self ..)).1
    have q1 : (1 : Int) ≤ (t.length : Int) + 1 := by omega
    simp only [List.length_cons] at c0 hn
    have hok : ∀ x ∈ t, TokOk x := fun x hx => h.ok x (List.mem_cons_of_mem _ hx)
    have hap := h.apart
    have hg : g ≠ N := fun e => hap (e ▸ hk)
    have H : ∀ A' : Option Addr, Txs w K A' (c - 1) t → RowAt (w.setCell ⟨N, 0, none⟩ (.slice A' t.length (c - 1))) N K t n ∧ Ag (fun b => b ≠ N) w (w.setCell ⟨N, 0, none⟩ (.slice A' t.length (c - 1))) := by
      intro A' hA
      refine ⟨⟨⟨A', c - 1, ?_, hA.keep (fun b hb => Below.heap_setCell w _ _ b (fun e => hap (by have e : b = N := e; rw [← e]; exact hb))) (fun _ hb => hb)⟩, hap, hok, by omega⟩, (Ag.refl _ w).setCell (fun _ q => q rfl) _⟩
      have := hb.set 0 (.slice A' t.length (c - 1))
      simpa using this
    have hse : List.isEmpty s = false := by cases s with | nil => exact absurd rfl hs | cons a b => rfl
    have hcon := Tryz.slices_Contains_string gm 0 ms.length cm (ms.map fun m => (⟨m.toArray⟩ : ByteArray)) ⟨s.toArray⟩ w (by simp) (by omega) (fun j hj => by
      rw [List.length_map] at hj
      rw [Nat.zero_add, hm j ms[j] (List.getElem?_eq_getElem hj)]
      simp [List.getD_eq_getElem?_getD, hj])
    obtain ⟨b, hbq, hbm⟩ : ∃ b : Bool, Lib.containsS ((ms.map fun m => (⟨m.toArray⟩ : ByteArray)).take ms.length) ⟨s.toArray⟩ = b ∧ (b = true ↔ s ∈ ms) := by
      refine ⟨_, rfl, ?_⟩
      rw [List.take_of_length_le (by simp)]
      rw [Lib.containsS_iff, List.mem_map]
      constructor
      · rintro ⟨m, hm, e⟩
        have : m = s := by simpa using e
        exact this ▸ hm
      · exact fun q => ⟨s, q, rfl⟩
    rw [hbq] at hcon
    clear hbq
    cases b with
    | false =>
      have hno : s ∉ ms := fun q => by simp [q] at hbm
      simp only [hno, if_false]
      go_enter Tryz.func68, Tryz.ntmps68
      go_wp2_with fail
      refine hnext.mono ?_
      rintro _ w1 ⟨rfl, rfl⟩
      simp only [List.headD_cons]
      go_wp2_with fail
      refine hcon.mono ?_
      rintro _ w1 ⟨rfl, rfl⟩
      go_wp2_with fail
      refine hbad.mono ?_
      rintro _ w1 ⟨rfl, rfl⟩
      exact ⟨rfl, rfl, rfl⟩
    | true =>
      have hyes : s ∈ ms := hbm.1 rfl
      clear hbm
      simp only [hyes, if_true]
      by_cases hc : c = 1
      · have ht2 := hc1 hc
        subst hc ht2
        go_enter Tryz.func68, Tryz.ntmps68
        go_wp2_with fail
        refine hnext.mono ?_
        rintro _ w1 ⟨rfl, rfl⟩
        simp only [List.headD_cons]
        go_wp2_with fail
        refine hcon.mono ?_
        rintro _ w1 ⟨rfl, rfl⟩
        go_wp2_with fail
        go_ret
        exact ⟨rfl, H _ (ht0 _ (by first | rfl | trivial))⟩
      · go_enter Tryz.func68, Tryz.ntmps68
        go_wp2_with fail
        refine hnext.mono ?_
        rintro _ w1 ⟨rfl, rfl⟩
        simp only [List.headD_cons]
        go_wp2_with fail
        refine hcon.mono ?_
        rintro _ w1 ⟨rfl, rfl⟩
        go_wp2_with fail
        go_ret
        exact ⟨rfl, H _ ht⟩
end
end Go.Proofs.YtjebjninlejoeaaGreatDoor
namespace Go.Proofs.YtjebjninlejoeaaGreatDoor
open Go.RowKit Go.Maps Go.ChangeMaps
set_option linter.unusedVariables false
set_option linter.unusedSimpArgs false
set_option maxRecDepth 100000

theorem regN_at : ∀ k : Nat, k < 11 → regNs[k]? = some (114 :: Lib.decDigits k) := by
  intro k hk
  have : k = 0 ∨ k = 1 ∨ k = 2 ∨ k = 3 ∨ k = 4 ∨ k = 5 ∨ k = 6 ∨ k = 7 ∨ k = 8 ∨ k = 9 ∨ k = 10 := by omega
  rcases this with rfl | rfl | rfl | rfl | rfl | rfl | rfl | rfl | rfl | rfl | rfl
  all_goals (first | rw [Lib.decDigits_one (by decide)] | rw [Lib.decDigits_two (by decide) (by decide)])
  all_goals rfl
theorem idx_first : ∀ (l : List Nm) (s : Nm) (k : Nat), (∀ j, j < k → l[j]? ≠ some s) → l[k]? = some s → l.idxOf? s = some k
  | [], s, k, _, h => by simp at h
  | x :: l, s, 0, _, h => by
    simp at h
    subst h
    simp [List.idxOf?_cons]
  | x :: l, s, k + 1, h1, h => by
    have hx : x ≠ s := fun e => h1 0 (by omega) (by rw [e]; rfl)
    have ih := idx_first l s k (fun j hj => by have := h1 (j + 1) (by omega); simpa using this) (by simpa using h)
    rw [List.idxOf?_cons, if_neg (by simpa using hx), ih]
    rfl
theorem regP_at {s : Nm} {k : Nat} (h1 : ∀ j, j < k → regNs[j]? ≠ some s) (h2 : regNs[k]? = some s) : regP s = some (k : Int) := by
  unfold regP
  rw [idx_first _ _ _ h1 h2]
  rfl
theorem regP_no {s : Nm} (h1 : ∀ j, j < 11 → regNs[j]? ≠ some s) : regP s = none := by
  unfold regP
  rw [Option.map_eq_none_iff, List.idxOf?_eq_none_iff]
  intro hm
  obtain ⟨j, hj, e⟩ := List.mem_iff_getElem.1 hm
  have hl : regNs.length = 11 := rfl
  exact h1 j (by omega) (by rw [List.getElem?_eq_getElem hj, e])
theorem cat_list (a b : List UInt8) : ((⟨a.toArray⟩ : ByteArray) ++ ⟨b.toArray⟩).toList = a ++ b := by
  rw [ByteArray.toList_eq]
  simp
theorem cat_is (a b : List UInt8) : ((⟨a.toArray⟩ : ByteArray) ++ ⟨b.toArray⟩) = ⟨(a ++ b).toArray⟩ := by
  apply Go.WideShapes.bytes_inj
  simp
/-- A register's number; below 0: it is none. -/
def regI (s : Nm) : Int := (regP s).getD (-1)
theorem register_any (s : Nm) (w : World) : Calls Tryz.prog 187 #[.string ⟨s.toArray⟩] w fun e w' => e = .returned (.int .i64 (regI s)) ∧ w' = w := by
  go_enter Tryz.func187, Tryz.ntmps187
  go_wp2_with fail
  go_loopw [4] (fun i wr => ∃ k : Nat, k ≤ 11 ∧ i = .int .i64 k ∧ wr = w ∧ ∀ j, j < k → regNs[j]? ≠ some s) (fun i _ => 11 - (intOf i).toNat)
  case atStart => exact ⟨0, by omega, rfl, rfl, fun j hj => by omega⟩
  case round =>
    obtain ⟨k, hk, rfl, rfl, hno⟩ := hrel
    by_cases hlt : k < 11
    · have d1 : decide ((k : Int) < 11) = true := decide_eq_true (by omega)
      have hcon := Tryz.strconv_Itoa_small k (by omega) wr
      have hdl : (Lib.decDigits k).length ≤ 2 := by
        rw [Lib.decDigits_length]
        by_cases h : k < 10
        · rw [Lib.nDigits_small h]; omega
        · rw [Lib.nDigits_big h, Lib.nDigits_small (by omega)]; omega
      have q1 : ¬ 9223372036854775807 < 1 + (Lib.decDigits k).length := by omega
      have hc : ((⟨#[114]⟩ : ByteArray) ++ ⟨(Lib.decDigits k).toArray⟩).toList = 114 :: Lib.decDigits k := cat_list [114] _
      have hk2 := regN_at k hlt
      by_cases heq : s = 114 :: Lib.decDigits k
      · have hq : (s == 114 :: Lib.decDigits k) = true := by rw [heq]; simp
        have hR : regI s = k := by unfold regI; rw [regP_at hno (by rw [heq]; exact hk2)]; rfl
        clear hno heq hk2
        go_wp2_with fail
        refine hcon.mono ?_
        rintro _ w1 ⟨rfl, rfl⟩
        go_wp2_with fail
        go_ret
        exact ⟨by rw [hR]; rfl, rfl⟩
      · have hq : (s == 114 :: Lib.decDigits k) = false := by simpa using heq
        go_wp2_with fail
        refine hcon.mono ?_
        rintro _ w1 ⟨rfl, rfl⟩
        go_wp2_with fail
        go_roundw
        case rel =>
          refine ⟨k + 1, by omega, by go_num, by first | rfl | trivial, fun j hj => ?_⟩
          by_cases e : j = k
          · subst e; rw [hk2]; intro q; injection q with q; exact heq q.symm
          · exact hno j (by omega)
        case measure => simp [intOf]; omega
    · have d1 : decide ((k : Int) < 11) = false := decide_eq_false (by omega)
      have hR : regI s = -1 := by unfold regI; rw [regP_no (fun j hj => hno j (by omega))]; rfl
      clear hno
      go_wp2_with fail
      go_ret
      exact ⟨by rw [hR]; rfl, rfl⟩
/-- What a method of a row tells. -/
def RowR {α : Type} (N : Nat) (K : Nat → Prop) (n : Int) (w : World) (r : Option (α × List Nm)) (val : α → Value) (x : Ending) (w' : World) : Prop :=
  match r with
  | some (v, t) => x = .returned (val v) ∧ RowAt w' N K t n ∧ Ag (fun b => b ≠ N) w w'
  | none => x = Thrown 120 n ∧ Ag (fun b => b ≠ N) w w'
def iV (x : Int) : Value := .int .i64 x
theorem reg_pos {s : Nm} {n : Int} (h : regP s = some n) : 0 ≤ n := by
  unfold regP at h
  obtain ⟨k, _, e⟩ := Option.map_eq_some_iff.1 h
  omega
theorem RowAt.lt {w : World} {N : Nat} {K : Nat → Prop} {l : List Nm} {n : Int} (h : RowAt w N K l n) : N < w.heap.size := by
  obtain ⟨A, c, hb, _⟩ := h.row
  exact hb.lt
theorem num_tok {s : Nm} (hs : TokOk s) {v : Int} (ha : Lib.atoiAll s = .ok v) : s.head? ≠ some 43 ∧ s.head? ≠ some 45 := by
  rcases hs.2.2 with hw | ⟨c, rfl, hc⟩
  · constructor
    all_goals
      intro e
      have := List.all_eq_true.1 hw _ (List.mem_of_mem_head? e)
      exact absurd this (by decide)
  · constructor
    all_goals
      intro e
      simp at e
      subst e
      have e0 : (match Lib.atoiAll [43] with | .ok _ => true | _ => false) = false ∧ (match Lib.atoiAll [45] with | .ok _ => true | _ => false) = false := by decide
      first
        | (have q := e0.1; rw [ha] at q; cases q)
        | (have q := e0.2; rw [ha] at q; cases q)
theorem num_none {s : Nm} (hs : TokOk s) (h : ∀ v, Lib.atoiAll s ≠ .ok v) : numP s = none := by
  cases hn : numP s with
  | none => rfl
  | some n =>
    exfalso
    obtain ⟨u, rfl, rfl, hu⟩ := numP_some hn
    have h1 : (Lib.decDigits u).head? ≠ some 43 := fun e => absurd (dec_head_dig u 43 e) (by decide)
    have h2 : (Lib.decDigits u).head? ≠ some 45 := fun e => absurd (dec_head_dig u 45 e) (by decide)
    exact h _ ((num_iff h1 h2 _).1 hn).1
theorem RowR.lift {α : Type} {N : Nat} {K : Nat → Prop} {n : Int} {w w1 w' : World} {r : Option (α × List Nm)} {val : α → Value} {x : Ending} (h : RowR N K n w1 r val x w') (ha : Ag (fun b => b ≠ N) w w1) : RowR N K n w r val x w' := by
  cases r with
  | none => exact ⟨h.1, ha.trans h.2⟩
  | some p => exact ⟨h.1, h.2.1, ha.trans h.2.2⟩
section
variable {w : World} {N : Nat} {K : Nat → Prop} {l : List Nm} {n : Int} (h : RowAt w N K l n)
include h
theorem reg_any : Calls Tryz.prog 132 #[.pointer (some ⟨N, 0, none⟩)] w fun x w' => RowR N K n w (regT l) iV x w' := by
  have htake := take_any h h.lt
  cases l with
  | nil =>
    go_enter Tryz.func132, Tryz.ntmps132
    go_wp2_with fail
    refine htake.mono ?_
    rintro _ w1 ⟨rfl, rfl⟩
    exact ⟨rfl, rfl, Ag.refl _ _⟩
  | cons s t =>
    cases hr : regP s with
    | none =>
      have hR : regI s = -1 := by unfold regI; rw [hr]; rfl
      have hreg := register_any s
      rw [hR] at hreg
      go_enter Tryz.func132, Tryz.ntmps132
      go_wp2_with fail
      refine htake.mono ?_
      rintro _ w1 ⟨rfl, h1, a1⟩
      have hbad := bad_any h1
      go_wp2_with fail
      refine (hreg w1).mono ?_
      rintro _ w2 ⟨rfl, rfl⟩
      go_wp2_with fail
      refine hbad.mono ?_
      rintro _ w2 ⟨rfl, rfl⟩
      refine ⟨rfl, ?_⟩
      simp only [RowR, regT, hr, Option.map_none]
      exact ⟨rfl, a1⟩
    | some v =>
      have hR : regI s = v := by unfold regI; rw [hr]; rfl
      have hv := reg_pos hr
      have d1 : decide (v < 0) = false := decide_eq_false (by omega)
      have hreg := register_any s
      rw [hR] at hreg
      go_enter Tryz.func132, Tryz.ntmps132
      go_wp2_with fail
      refine htake.mono ?_
      rintro _ w1 ⟨rfl, h1, a1⟩
      go_wp2_with fail
      refine (hreg w1).mono ?_
      rintro _ w2 ⟨rfl, rfl⟩
      go_wp2_with fail
      go_ret
      simp only [RowR, regT, hr, Option.map_some]
      exact ⟨rfl, h1, a1⟩
theorem number_any {B : Nat} (hv : Tv B w) (hB : B ≤ N) : Calls Tryz.prog 184 #[.pointer (some ⟨N, 0, none⟩)] w fun x w' => RowR N K n w (numT l) iV x w' := by
  have htake := take_any h h.lt
  cases l with
  | nil =>
    go_enter Tryz.func184, Tryz.ntmps184
    go_wp2_with fail
    refine htake.mono ?_
    rintro _ w1 ⟨rfl, rfl⟩
    exact ⟨rfl, rfl, Ag.refl _ _⟩
  | cons s t =>
    have hs := h.ok s (List.mem_cons_self ..)
    have hsl := hs.2.1
    have hNl := h.lt
    have hv1 : ∀ w1, Ag (fun b => b ≠ N) w w1 → Tv B w1 := fun w1 a1 => hv.ag a1 (by omega) (fun i hi e => by omega)
    have bad : ∀ w1 w2 : World, RowAt w1 N K t n → Ag (fun b => b ≠ N) w w1 → Below w1.heap.size w1 w2 → RowAt w2 N K t n ∧ Ag (fun b => b ≠ N) w w2 := fun w1 w2 h1 a1 b => ⟨h1.below b, a1.trans (Ag.of_below _ b)⟩
    cases hat : Lib.atoiAll s with
    | ok v =>
      obtain ⟨hs1, hs2⟩ := num_tok hs hat
      have hiff := num_iff hs1 hs2 v
      have hbd := Lib.atoiAll_bounds hat
      have hx : (((⟨s.toArray⟩ : ByteArray).size : Nat) : Int) = (s.length : Int) := by show ((s.toArray.size : Nat) : Int) = _; simp
      by_cases h10 : s.length ≤ 10
      · have d1 : decide ((10 : Int) < (s.length : Int)) = false := decide_eq_false (by omega)
        by_cases heq : Lib.itoa v = s
        · have hn : numP s = some v := hiff.2 ⟨hat, h10, heq⟩
          have q2 : (Lib.itoa v == s) = true := by simpa using heq
          go_enter Tryz.func184, Tryz.ntmps184
          go_wp2_with fail
          refine htake.mono ?_
          rintro _ w1 ⟨rfl, h1, a1⟩
          have hcon := Tryz.strconv_Atoi_ok ⟨s.toArray⟩ (by show s.toArray.size ≤ _; simp; omega) v hat w1
          go_wp2_with fail
          refine hcon.mono ?_
          rintro _ w2 ⟨rfl, hw2⟩
          have b2 : Below w1.heap.size w1 w2 := by
            rcases hw2 with rfl | ⟨t', rfl⟩
            · exact Below.refl _ _
            · exact Go.Joins.below_bytesWorld _ _ _ _ (Nat.le_refl _)
          obtain ⟨h2, a2⟩ := bad w1 w2 h1 a1 b2
          have hcon2 := itoa_any v hbd.1 hbd.2 w2 (hv1 w2 a2)
          clear hw2
          go_wp2_with fail
          refine hcon2.mono ?_
          rintro _ w3 ⟨rfl, b3⟩
          obtain ⟨h3, a3⟩ := bad w2 w3 h2 a2 b3
          go_wp2_with fail
          go_ret
          simp only [RowR, numT, hn, Option.map_some]
          exact ⟨rfl, h3, a3⟩
        · have hn : numP s = none := by
            cases hq : numP s with
            | none => rfl
            | some m =>
              exfalso
              obtain ⟨e1, e2, e3⟩ := (num_iff hs1 hs2 m).1 hq
              rw [hat] at e1
              injection e1 with e1
              exact heq (e1 ▸ e3)
          have q2 : (Lib.itoa v == s) = false := by simpa using heq
          go_enter Tryz.func184, Tryz.ntmps184
          go_wp2_with fail
          refine htake.mono ?_
          rintro _ w1 ⟨rfl, h1, a1⟩
          have hcon := Tryz.strconv_Atoi_ok ⟨s.toArray⟩ (by show s.toArray.size ≤ _; simp; omega) v hat w1
          go_wp2_with fail
          refine hcon.mono ?_
          rintro _ w2 ⟨rfl, hw2⟩
          have b2 : Below w1.heap.size w1 w2 := by
            rcases hw2 with rfl | ⟨t', rfl⟩
            · exact Below.refl _ _
            · exact Go.Joins.below_bytesWorld _ _ _ _ (Nat.le_refl _)
          obtain ⟨h2, a2⟩ := bad w1 w2 h1 a1 b2
          have hcon2 := itoa_any v hbd.1 hbd.2 w2 (hv1 w2 a2)
          clear hw2
          go_wp2_with fail
          refine hcon2.mono ?_
          rintro _ w3 ⟨rfl, b3⟩
          obtain ⟨h3, a3⟩ := bad w2 w3 h2 a2 b3
          have hbad := bad_any h3
          go_wp2_with fail
          refine hbad.mono ?_
          rintro _ w4 ⟨rfl, rfl⟩
          refine ⟨rfl, ?_⟩
          simp only [RowR, numT, hn, Option.map_none]
          exact ⟨rfl, a3⟩
      · have d1 : decide ((10 : Int) < (s.length : Int)) = true := decide_eq_true (by omega)
        have hn : numP s = none := by
          cases hq : numP s with
          | none => rfl
          | some m => exact absurd ((num_iff hs1 hs2 m).1 hq).2.1 h10
        go_enter Tryz.func184, Tryz.ntmps184
        go_wp2_with fail
        refine htake.mono ?_
        rintro _ w1 ⟨rfl, h1, a1⟩
        have hcon := Tryz.strconv_Atoi_ok ⟨s.toArray⟩ (by show s.toArray.size ≤ _; simp; omega) v hat w1
        go_wp2_with fail
        refine hcon.mono ?_
        rintro _ w2 ⟨rfl, hw2⟩
        have b2 : Below w1.heap.size w1 w2 := by
          rcases hw2 with rfl | ⟨t', rfl⟩
          · exact Below.refl _ _
          · exact Go.Joins.below_bytesWorld _ _ _ _ (Nat.le_refl _)
        obtain ⟨h2, a2⟩ := bad w1 w2 h1 a1 b2
        clear hw2
        have hbad := bad_any h2
        go_wp2_with fail
        refine hbad.mono ?_
        rintro _ w4 ⟨rfl, rfl⟩
        refine ⟨rfl, ?_⟩
        simp only [RowR, numT, hn, Option.map_none]
        exact ⟨rfl, a2⟩
    | range =>
      have hn := num_none hs (fun v e => by rw [hat] at e; cases e)
      go_enter Tryz.func184, Tryz.ntmps184
      go_wp2_with fail
      refine htake.mono ?_
      rintro _ w1 ⟨rfl, h1, a1⟩
      obtain ⟨tp, p, e⟩ := (hv1 w1 a1).ra
      have hcon := Tryz.strconv_Atoi_range_var ⟨s.toArray⟩ (by show s.toArray.size ≤ _; simp; omega) hat tp p w1 e
      go_wp2_with fail
      refine hcon.mono ?_
      rintro _ w2 ⟨M, rfl, _, _, b2⟩
      obtain ⟨h2, a2⟩ := bad w1 w2 h1 a1 b2
      have hbad := bad_any h2
      go_wp2_with fail
      refine hbad.mono ?_
      rintro _ w2 ⟨rfl, rfl⟩
      refine ⟨rfl, ?_⟩
      simp only [RowR, numT, hn, Option.map_none]
      exact ⟨rfl, a2⟩
    | _ =>
      have hn := num_none hs (fun v e => by rw [hat] at e; cases e)
      go_enter Tryz.func184, Tryz.ntmps184
      go_wp2_with fail
      refine htake.mono ?_
      rintro _ w1 ⟨rfl, h1, a1⟩
      obtain ⟨tp, p, e⟩ := (hv1 w1 a1).sy
      have hcon : Calls Tryz.prog 213 #[.string ⟨s.toArray⟩] w1 fun e w' => ∃ N, e = .returned (.tuple #[.int .i64 0, .iface 335 (.pointer (some ⟨N, 0, none⟩))]) ∧ w1.heap.size ≤ N ∧ w'.heap[N]? = some (.cells #[.string ⟨#[65, 116, 111, 105]⟩, .string ⟨s.toArray⟩, .iface tp p] 344 (0, 0)) ∧ Below w1.heap.size w1 w' := Go.Proofs.Any.strconv_Atoi_syntax_var Tryz.laysC172 ⟨s.toArray⟩ (by show s.toArray.size ≤ _; simp; omega) hat tp p w1 e
      go_wp2_with fail
      refine hcon.mono ?_
      rintro _ w2 ⟨M, rfl, _, _, b2⟩
      obtain ⟨h2, a2⟩ := bad w1 w2 h1 a1 b2
      have hbad := bad_any h2
      go_wp2_with fail
      refine hbad.mono ?_
      rintro _ w2 ⟨rfl, rfl⟩
      refine ⟨rfl, ?_⟩
      simp only [RowR, numT, hn, Option.map_none]
      exact ⟨rfl, a2⟩
theorem signed_any {B : Nat} (hv : Tv B w) (hB : B ≤ N) : Calls Tryz.prog 130 #[.pointer (some ⟨N, 0, none⟩)] w fun x w' => RowR N K n w (signT l) iV x w' := by
  have hNl := h.lt
  have hw1 := (Below.refl w.heap.size w).alloc (Nat.le_refl _) (.cells #[.string ⟨#[43]⟩, .string ⟨#[45]⟩] 9)
  have hB1 := Bk.new w 9 [.string ⟨#[43]⟩, .string ⟨#[45]⟩]
  have h1 := h.below hw1
  have hv1 := hv.below hw1 (by omega)
  have htake := takeM_any h1 h1.lt [[43], [45]] w.heap.size 2 (by simp) (by simp) (fun j m hj => by
    have := hB1.cell j
    rw [this]
    match j, hj with
    | 0, hj => simp at hj; subst hj; rfl
    | 1, hj => simp at hj; subst hj; rfl
    | j + 2, hj => simp at hj)
  cases l with
  | nil =>
    go_enter Tryz.func130, Tryz.ntmps130
    go_wp2_with fail
    refine htake.mono ?_
    rintro _ w1 ⟨rfl, rfl⟩
    exact ⟨rfl, rfl, Ag.of_below _ hw1⟩
  | cons s t =>
    have hnum := fun w1 (hr : RowAt w1 N K t n) (a1 : Ag (fun b => b ≠ N) (w.alloc (.cells #[.string ⟨#[43]⟩, .string ⟨#[45]⟩] 9)) w1) => number_any hr (hv1.ag a1 (by rw [World.size_alloc]; omega) (fun i hi e => by omega)) hB
    simp only [List.length_cons, List.length_nil] at htake
    by_cases hp : s = [43]
    · subst hp
      simp only [List.mem_cons, true_or, if_true] at htake
      have hS : signT ([43] :: t) = numT t := by simp [signT]
      rw [hS]
      cases hq : numT t with
      | none =>
        simp only [hq] at hnum
        go_enter Tryz.func130, Tryz.ntmps130
        go_wp2_with fail
        refine htake.mono ?_
        rintro _ w1 ⟨rfl, h2, a1⟩
        go_wp2_with fail
        refine (hnum w1 h2 a1).mono ?_
        rintro _ w2 ⟨rfl, a2⟩
        exact ⟨rfl, rfl, (Ag.of_below _ hw1).trans (a1.trans a2)⟩
      | some p =>
        simp only [hq] at hnum
        go_enter Tryz.func130, Tryz.ntmps130
        go_wp2_with fail
        refine htake.mono ?_
        rintro _ w1 ⟨rfl, h2, a1⟩
        go_wp2_with fail
        refine (hnum w1 h2 a1).mono ?_
        rintro _ w2 ⟨rfl, h3, a2⟩
        go_wp2_with fail
        go_ret
        exact ⟨rfl, h3, (Ag.of_below _ hw1).trans (a1.trans a2)⟩
    · by_cases hm : s = [45]
      · subst hm
        simp only [List.mem_cons, true_or, or_true, if_true] at htake
        have hS : signT ([45] :: t) = (numT t).map (fun p => (-p.1, p.2)) := by simp [signT]
        rw [hS]
        cases hq : numT t with
        | none =>
          simp only [hq] at hnum
          go_enter Tryz.func130, Tryz.ntmps130
          go_wp2_with fail
          refine htake.mono ?_
          rintro _ w1 ⟨rfl, h2, a1⟩
          go_wp2_with fail
          refine (hnum w1 h2 a1).mono ?_
          rintro _ w2 ⟨rfl, a2⟩
          exact ⟨rfl, rfl, (Ag.of_below _ hw1).trans (a1.trans a2)⟩
        | some p =>
          obtain ⟨u, hu1, hu2⟩ : ∃ u : Nat, p.1 = u ∧ u < 10000000000 := by
            cases t with
            | nil => simp [numT] at hq
            | cons y t =>
              simp only [numT] at hq
              obtain ⟨m, hm, e⟩ := Option.map_eq_some_iff.1 hq
              obtain ⟨u, h1, _, h3⟩ := numP_some hm
              exact ⟨u, by rw [← e]; exact h1, h3⟩
          have hwr : IntKind.i64.wrap (-p.1) = -p.1 := by rw [hu1, IntKind.wrap_i64]; omega
          simp only [hq, Option.map_some] at hnum ⊢
          go_enter Tryz.func130, Tryz.ntmps130
          go_wp2_with fail
          refine htake.mono ?_
          rintro _ w1 ⟨rfl, h2, a1⟩
          go_wp2_with fail
          refine (hnum w1 h2 a1).mono ?_
          rintro _ w2 ⟨rfl, h3, a2⟩
          unfold iV
          go_wp2_with fail
          go_ret
          refine ⟨?_, h3, (Ag.of_below _ hw1).trans (a1.trans a2)⟩
          first
            | rfl
            | (rw [hu1]; rfl)
      · have hno : s ∉ [[43], [45]] := by simp [hp, hm]
        simp only [hno, if_false] at htake
        have hS : signT (s :: t) = none := by simp [signT, hp, hm]
        rw [hS]
        go_enter Tryz.func130, Tryz.ntmps130
        go_wp2_with fail
        refine htake.mono ?_
        rintro _ w1 ⟨rfl, rfl⟩
        exact ⟨rfl, rfl, Ag.of_below _ hw1⟩
end
end Go.Proofs.YtjebjninlejoeaaGreatDoor
