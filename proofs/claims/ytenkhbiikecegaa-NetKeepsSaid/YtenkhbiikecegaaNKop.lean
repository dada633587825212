/- net: the operations, as the rows have them. -/
import Derived.Test.YtenkhbiikecegaaNKst
namespace Go.Proofs.Ytenkhbiikecegaa
open Go.RowKit Go.Maps Go.ChangeMaps
set_option linter.unusedVariables false
set_option linter.unusedSimpArgs false
set_option maxRecDepth 100000

/-- The net did what is to be done to a row: its strings are to be us. -/
def Want (w0 : World) (G N i : Nat) (rs : List KRow) (us : List (List UInt8)) (B0 : Nat → Prop) (w w' : World) : Prop := (∃ B S, KI w0 G N B S rs w' ∧ ∀ r' : KRow, r'.us = us → KS S (rs.set i r')) ∧ ∀ j, j < w.heap.size → ¬ B0 j → w'.heap[j]? = w.heap[j]?
/-- .. nothing. -/
def Stay (w0 : World) (G N : Nat) (rs : List KRow) (B0 : Nat → Prop) (w w' : World) : Prop := (∃ B S, KI w0 G N B S rs w' ∧ KS S rs) ∧ ∀ j, j < w.heap.size → ¬ B0 j → w'.heap[j]? = w.heap[j]?
theorem i64_n {f : Nat} (h : f < 1000) : I64 (f : Int) := by unfold I64; omega
section
variable {w0 w : World} {G N : Nat} {B : Nat → Prop} {S : Sg} {rs : List KRow}
theorem KI.want (h : KI w0 G N B S rs w) (hS : KS S rs) {S' : Sg} {T : List PV} {w' : World} {f t : Nat} (hf : f < 3) (ht : t < 3) {us : List (List UInt8)} (hd : Did B N S' T w w') (e : S' = upd S f t (us.map bI)) : Want w0 G N (3 * f + t) rs us B w w' ∧ ∃ K, ∀ p ∈ T, Dat w' K p.A p.c p.l := by
  have hfr : ∀ j, j < w.heap.size → ¬ B j → w'.heap[j]? = w.heap[j]? := hd.elim fun _ q => q.2.2.block
  obtain ⟨B', h1, h2⟩ := h.did hd
  subst e
  exact ⟨⟨⟨B', _, h1, fun r' hr => by rw [← hr]; exact hS.upd h.len hf ht r'⟩, hfr⟩, B', h2⟩
theorem KI.stay (h : KI w0 G N B S rs w) (hS : KS S rs) {S' : Sg} {T : List PV} {w' : World} (hd : Did B N S' T w w') (e : S' = S) : Stay w0 G N rs B w w' := by
  have hfr : ∀ j, j < w.heap.size → ¬ B j → w'.heap[j]? = w.heap[j]? := hd.elim fun _ q => q.2.2.block
  obtain ⟨B', h1, h2⟩ := h.did hd
  subst e
  exact ⟨⟨B', _, h1, hS⟩, hfr⟩
variable (h : KI w0 G N B S rs w) (hS : KS S rs) {f t : Nat} (hf : f < 3) (ht : t < 3) {r : KRow} (hr : rs.getD (3 * f + t) default = r)
include h hS hf ht hr
theorem ki_take_in {j : Nat} (hj : j < r.us.length) : Calls Try.prog 5 #[.pointer (some ⟨N, 0, none⟩), .int .i64 f, .int .i64 t, .int .i64 j] w fun e w' => ∃ A c, e = .returned (.tuple #[.slice A (r.us[j]).length c, .int .i64 0]) ∧ Want w0 G N (3 * f + t) rs (r.us.eraseIdx j) B w w' ∧ ∃ K, Dat w' K A c (bI r.us[j]) := by
  have hat := hS.at_ hf ht hr
  have hin : 0 ≤ (j : Int) ∧ (j : Int) < (S f t).length := by rw [hat]; simp; omega
  refine (op_take f t j (i64_n (by omega)) (i64_n (by omega)) w h.net).mono ?_
  rintro e w' ⟨⟨A, c, l⟩, hp, he, hd⟩
  have hv : l = bI r.us[j] := by
    rw [show l = tkV S f t j from hp, tkV, if_pos hin, hat]
    simp [List.getD_eq_getElem?_getD, hj]
  subst hv
  obtain ⟨h1, K, h2⟩ := h.want (T := [] ++ [⟨A, c, bI r.us[j]⟩]) (us := r.us.eraseIdx j) hS hf ht hd (by rw [tkS, if_pos hin, hat, map_erase]; simp)
  refine ⟨A, c, ?_, h1, K, h2 ⟨A, c, bI r.us[j]⟩ (by simp)⟩
  rw [he, tkE, if_pos hin]
  simp [PV.val]
theorem ki_take_out {k : Int} (hk : ¬ (0 ≤ k ∧ k < r.us.length)) : Calls Try.prog 5 #[.pointer (some ⟨N, 0, none⟩), .int .i64 f, .int .i64 t, .int .i64 k] w fun e w' => ∃ A c, e = .returned (.tuple #[.slice A 0 c, .int .i64 6]) ∧ Stay w0 G N rs B w w' := by
  have hat := hS.at_ hf ht hr
  have hin : ¬ (0 ≤ k ∧ k < (S f t).length) := by rw [hat]; simpa using hk
  refine (op_take f t k (i64_n (by omega)) (i64_n (by omega)) w h.net).mono ?_
  rintro e w' ⟨⟨A, c, l⟩, hp, he, hd⟩
  have hv : l = [] := by rw [show l = tkV S f t k from hp, tkV, if_neg hin]
  subst hv
  refine ⟨A, c, ?_, h.stay hS hd (by rw [tkS, if_neg hin])⟩
  rw [he, tkE, if_neg hin]
  simp [PV.val]
theorem ki_drop_in {j : Nat} (hj : j < r.us.length) : Calls Try.prog 7 #[.pointer (some ⟨N, 0, none⟩), .int .i64 f, .int .i64 t, .int .i64 j] w fun e w' => e = .returned (.int .i64 0) ∧ Want w0 G N (3 * f + t) rs (r.us.eraseIdx j) B w w' := by
  have hat := hS.at_ hf ht hr
  have hin : 0 ≤ (j : Int) ∧ (j : Int) < (S f t).length := by rw [hat]; simp; omega
  refine (op_drop f t j (i64_n (by omega)) (i64_n (by omega)) w h.net).mono ?_
  rintro e w' ⟨he, hd⟩
  exact ⟨by rw [he, tkE, if_pos hin], (h.want (us := r.us.eraseIdx j) hS hf ht hd (by rw [tkS, if_pos hin, hat, map_erase]; simp)).1⟩
theorem ki_drop_out {k : Int} (hk : ¬ (0 ≤ k ∧ k < r.us.length)) : Calls Try.prog 7 #[.pointer (some ⟨N, 0, none⟩), .int .i64 f, .int .i64 t, .int .i64 k] w fun e w' => e = .returned (.int .i64 6) ∧ Stay w0 G N rs B w w' := by
  have hat := hS.at_ hf ht hr
  have hin : ¬ (0 ≤ k ∧ k < (S f t).length) := by rw [hat]; simpa using hk
  refine (op_drop f t k (i64_n (by omega)) (i64_n (by omega)) w h.net).mono ?_
  rintro e w' ⟨he, hd⟩
  exact ⟨by rw [he, tkE, if_neg hin], h.stay hS hd (by rw [tkS, if_neg hin])⟩
theorem ki_double_in {j : Nat} (hj : j < r.us.length) (hl : r.us.length < 64) : Calls Try.prog 8 #[.pointer (some ⟨N, 0, none⟩), .int .i64 f, .int .i64 t, .int .i64 j] w fun e w' => e = .returned (.int .i64 0) ∧ Want w0 G N (3 * f + t) rs (r.us ++ [r.us[j]]) B w w' := by
  have hat := hS.at_ hf ht hr
  have hin : 0 ≤ (j : Int) ∧ (j : Int) < (S f t).length := by rw [hat]; simp; omega
  have hE : dbE S f t j = 0 := by rw [dbE, if_pos hin, if_neg (by rw [hat]; simp; omega)]
  refine (op_double f t j (i64_n (by omega)) (i64_n (by omega)) w h.net).mono ?_
  rintro e w' ⟨he, hd⟩
  refine ⟨by rw [he, hE], (h.want (us := r.us ++ [r.us[j]]) hS hf ht hd ?_).1⟩
  rw [dbS, if_pos hE, hat]
  simp [List.getD_eq_getElem?_getD, hj]
theorem ki_double_full {j : Nat} (hj : j < r.us.length) (hl : 64 ≤ r.us.length) : Calls Try.prog 8 #[.pointer (some ⟨N, 0, none⟩), .int .i64 f, .int .i64 t, .int .i64 j] w fun e w' => e = .returned (.int .i64 5) ∧ Stay w0 G N rs B w w' := by
  have hat := hS.at_ hf ht hr
  have hin : 0 ≤ (j : Int) ∧ (j : Int) < (S f t).length := by rw [hat]; simp; omega
  have hE : dbE S f t j = 5 := by rw [dbE, if_pos hin, if_pos (by rw [hat]; simp; omega)]
  refine (op_double f t j (i64_n (by omega)) (i64_n (by omega)) w h.net).mono ?_
  rintro e w' ⟨he, hd⟩
  exact ⟨by rw [he, hE], h.stay hS hd (by rw [dbS, if_neg (by rw [hE]; decide)])⟩
theorem ki_double_out {k : Int} (hk : ¬ (0 ≤ k ∧ k < r.us.length)) : Calls Try.prog 8 #[.pointer (some ⟨N, 0, none⟩), .int .i64 f, .int .i64 t, .int .i64 k] w fun e w' => e = .returned (.int .i64 6) ∧ Stay w0 G N rs B w w' := by
  have hat := hS.at_ hf ht hr
  have hin : ¬ (0 ≤ k ∧ k < (S f t).length) := by rw [hat]; simpa using hk
  have hE : dbE S f t k = 6 := by rw [dbE, if_neg hin]
  refine (op_double f t k (i64_n (by omega)) (i64_n (by omega)) w h.net).mono ?_
  rintro e w' ⟨he, hd⟩
  exact ⟨by rw [he, hE], h.stay hS hd (by rw [dbS, if_neg (by rw [hE]; decide)])⟩
theorem ki_send_in {KP : Nat → Prop} (A : Option Addr) (c : Nat) (u : List UInt8) (hu : u.length ≤ 500) (hl : Rd w KP A c (u8s (bI u))) (hKP : ∀ k, KP k → k < w.heap.size) (h64 : r.us.length < 64) : Calls Try.prog 6 #[.pointer (some ⟨N, 0, none⟩), .int .i64 f, .int .i64 t, .slice A u.length c] w fun e w' => e = .returned (.int .i64 0) ∧ Want w0 G N (3 * f + t) rs (r.us ++ [u]) B w w' := by
  have hat := hS.at_ hf ht hr
  have hE : sndE S f t (bI u) = 0 := by rw [sndE, if_neg (by simp; omega), if_neg (by rw [hat]; simp; omega)]
  have ho := op_send (KP := KP) f t (i64_n (by omega)) (i64_n (by omega)) A c (bI u) w h.net hl hKP
  rw [bI_len] at ho
  refine ho.mono ?_
  rintro e w' ⟨he, hd⟩
  refine ⟨by rw [he, hE], (h.want (us := r.us ++ [u]) hS hf ht hd ?_).1⟩
  rw [sndS, if_pos hE, hat]
  simp
theorem ki_send_full {KP : Nat → Prop} (A : Option Addr) (c : Nat) (u : List UInt8) (hu : u.length ≤ 500) (hl : Rd w KP A c (u8s (bI u))) (hKP : ∀ k, KP k → k < w.heap.size) (h64 : 64 ≤ r.us.length) : Calls Try.prog 6 #[.pointer (some ⟨N, 0, none⟩), .int .i64 f, .int .i64 t, .slice A u.length c] w fun e w' => e = .returned (.int .i64 5) ∧ Stay w0 G N rs B w w' := by
  have hat := hS.at_ hf ht hr
  have hE : sndE S f t (bI u) = 5 := by rw [sndE, if_neg (by simp; omega), if_pos (by rw [hat]; simp; omega)]
  have ho := op_send (KP := KP) f t (i64_n (by omega)) (i64_n (by omega)) A c (bI u) w h.net hl hKP
  rw [bI_len] at ho
  refine ho.mono ?_
  rintro e w' ⟨he, hd⟩
  exact ⟨by rw [he, hE], h.stay hS hd (by rw [sndS, if_neg (by rw [hE]; decide)])⟩
theorem ki_wait : Calls Try.prog 9 #[.pointer (some ⟨N, 0, none⟩), .int .i64 f, .int .i64 t] w fun e w' => e = .returned (.int .i64 r.us.length) ∧ Below w.heap.size w w' := by
  have hat := hS.at_ hf ht hr
  refine (op_wait f t (i64_n (by omega)) (i64_n (by omega)) w h.net).mono ?_
  rintro e w' ⟨he, hw⟩
  exact ⟨by rw [he, hat]; simp, hw⟩
end
/-- A link of the nine. -/
def ix (i : Nat) : Int × Int := (((i / 3 : Nat) : Int), ((i % 3 : Nat) : Int))
theorem ix_mem {S : Sg} {rs : List KRow} (hS : KS S rs) {L : List (Int × Int)} (hL : OnL S L) (x y : Int) : (x, y) ∈ L ↔ (x, y) ∈ ((List.range 9).filter fun i => decide (0 < (rs.getD i default).us.length)).map ix := by
  rw [hL.1, hS x y, List.mem_map]
  constructor
  · intro h
    by_cases hb : 0 ≤ x ∧ x < 3 ∧ 0 ≤ y ∧ y < 3
    · rw [if_pos hb] at h
      refine ⟨(3 * x + y).toNat, ?_, ?_⟩
      · rw [List.mem_filter, List.mem_range]
        refine ⟨by omega, decide_eq_true ?_⟩
        cases hq : (rs.getD (3 * x + y).toNat default).us with
        | nil => rw [hq] at h; exact absurd rfl h
        | cons _ _ => simp
      · exact Prod.ext (by show (((3 * x + y).toNat / 3 : Nat) : Int) = x; omega) (by show (((3 * x + y).toNat % 3 : Nat) : Int) = y; omega)
    · rw [if_neg hb] at h; exact absurd rfl h
  · rintro ⟨i, hi, he⟩
    rw [List.mem_filter, List.mem_range] at hi
    obtain ⟨h1, h2⟩ := hi
    have h2 := of_decide_eq_true h2
    have e1 : ((i / 3 : Nat) : Int) = x := congrArg Prod.fst he
    have e2 : ((i % 3 : Nat) : Int) = y := congrArg Prod.snd he
    rw [if_pos ⟨by omega, by omega, by omega, by omega⟩, show (3 * x + y).toNat = i by omega]
    intro e
    rw [List.map_eq_nil_iff.1 e] at h2
    exact absurd h2 (by decide)
theorem ix_inj {i j : Nat} (h : ix i = ix j) : i = j := by
  have e1 : ((i / 3 : Nat) : Int) = ((j / 3 : Nat) : Int) := congrArg Prod.fst h
  have e2 : ((i % 3 : Nat) : Int) = ((j % 3 : Nat) : Int) := congrArg Prod.snd h
  omega
theorem ix_len {S : Sg} {rs : List KRow} (hS : KS S rs) (hl : rs.length = 9) {L : List (Int × Int)} (hL : OnL S L) : L.length = rs.countP fun r => decide (0 < r.us.length) := by
  have hnd : L.Nodup := hL.2.imp fun h e => by rw [e, ltL_irr] at h; cases h
  have hnd2 : (((List.range 9).filter fun i => decide (0 < (rs.getD i default).us.length)).map ix).Nodup := by
    rw [List.Nodup, List.pairwise_map]
    exact (List.nodup_range.filter _).imp fun hne e => hne (ix_inj e)
  have hp := (List.perm_ext_iff_of_nodup hnd hnd2).2 fun p => ix_mem hS hL p.1 p.2
  rw [hp.length_eq, List.length_map, ← List.countP_eq_length_filter]
  have hrs : rs = (List.range 9).map fun i => rs.getD i default := by
    refine List.ext_getElem? fun i => ?_
    rw [List.getElem?_map]
    by_cases hi : i < 9
    · rw [List.getElem?_range hi, List.getElem?_eq_getElem (by omega)]
      simp [List.getD_eq_getElem?_getD, hl, hi]
    · rw [List.getElem?_eq_none (by omega), List.getElem?_eq_none (by simp; omega)]
      rfl
  conv => rhs; rw [hrs, List.countP_map]
  rfl
/-- How many links have something. -/
theorem ki_links {w0 w : World} {G N : Nat} {B : Nat → Prop} {S : Sg} {rs : List KRow} (h : KI w0 G N B S rs w) (hS : KS S rs) : Calls Try.prog 10 #[.pointer (some ⟨N, 0, none⟩)] w fun e w' => ∃ A c, e = .returned (.slice A (rs.countP fun r => decide (0 < r.us.length)) c) ∧ Below w.heap.size w w' := by
  refine (op_links' w h.net ((List.range 9).map ix) (fun x y hne => ?_) (by simp)).mono ?_
  · have hb : 0 ≤ x ∧ x < 3 ∧ 0 ≤ y ∧ y < 3 := by
      refine Decidable.byContradiction fun hb => hne ?_
      rw [hS x y, if_neg hb]
    refine List.mem_map.2 ⟨(3 * x + y).toNat, List.mem_range.2 (by omega), ?_⟩
    exact Prod.ext (by show (((3 * x + y).toNat / 3 : Nat) : Int) = x; omega) (by show (((3 * x + y).toNat % 3 : Nat) : Int) = y; omega)
  · rintro e w' ⟨A, c, L, he, hL, _, hw⟩
    exact ⟨A, c, by rw [he, ix_len hS h.len hL], hw⟩
end Go.Proofs.Ytenkhbiikecegaa
