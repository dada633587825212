/- text, the plain law: a right instruction is read as it was shown. -/
import Derived.Test.YtjebjninlejoeaaGreatDoorP3
namespace Go.Proofs.YtjebjninlejoeaaGreatDoor
open Go.Lib
set_option linter.unusedVariables false
set_option linter.unusedSimpArgs false

theorem inI_iff {n a b : Int} : inI n a b = true ↔ a ≤ n ∧ n ≤ b := by simp [inI]
theorem base_word {op : Int} (h : (1 ≤ op ∧ op ≤ 13) ∨ (17 ≤ op ∧ op ≤ 27)) : (baseS op).all wordC = true ∧ baseS op ≠ [] := by
  rcases h with ⟨h1, h2⟩ | ⟨h1, h2⟩
  · have : op = 1 ∨ op = 2 ∨ op = 3 ∨ op = 4 ∨ op = 5 ∨ op = 6 ∨ op = 7 ∨ op = 8 ∨ op = 9 ∨ op = 10 ∨ op = 11 ∨ op = 12 ∨ op = 13 := by omega
    rcases this with rfl | rfl | rfl | rfl | rfl | rfl | rfl | rfl | rfl | rfl | rfl | rfl | rfl <;> decide +kernel
  · have : op = 17 ∨ op = 18 ∨ op = 19 ∨ op = 20 ∨ op = 21 ∨ op = 22 ∨ op = 23 ∨ op = 24 ∨ op = 25 ∨ op = 26 ∨ op = 27 := by omega
    rcases this with rfl | rfl | rfl | rfl | rfl | rfl | rfl | rfl | rfl | rfl | rfl <;> decide +kernel
theorem wt_first {i : IV} (h : (1 ≤ i.op ∧ i.op ≤ 13) ∨ (17 ≤ i.op ∧ i.op ≤ 27)) : Wt (firstS i) [firstS i] := by
  obtain ⟨h1, h2⟩ := base_word h
  refine wt_word ?_ (by unfold firstS; simp [h2])
  unfold firstS
  rw [List.all_append, h1]
  cases i.narrow <;> decide
theorem way_alu {op : Int} (b : Bool) (h1 : 1 ≤ op) (h2 : op ≤ 12) : wayP (baseS op ++ (if b then n32 else [])) = some ({ iv0 op with narrow := b }, .alu) := by
  have : op = 1 ∨ op = 2 ∨ op = 3 ∨ op = 4 ∨ op = 5 ∨ op = 6 ∨ op = 7 ∨ op = 8 ∨ op = 9 ∨ op = 10 ∨ op = 11 ∨ op = 12 := by omega
  rcases this with rfl | rfl | rfl | rfl | rfl | rfl | rfl | rfl | rfl | rfl | rfl | rfl <;> cases b <;> decide +kernel
theorem way_neg (b : Bool) : wayP (baseS 13 ++ (if b then n32 else [])) = some ({ iv0 13 with narrow := b }, .neg) := by cases b <;> decide +kernel
theorem way_ask {op : Int} (b : Bool) (h1 : 17 ≤ op) (h2 : op ≤ 27) : wayP (baseS op ++ (if b then n32 else [])) = some ({ iv0 op with narrow := b }, .ask) := by
  have : op = 17 ∨ op = 18 ∨ op = 19 ∨ op = 20 ∨ op = 21 ∨ op = 22 ∨ op = 23 ∨ op = 24 ∨ op = 25 ∨ op = 26 ∨ op = 27 := by omega
  rcases this with rfl | rfl | rfl | rfl | rfl | rfl | rfl | rfl | rfl | rfl | rfl <;> cases b <;> decide +kernel
theorem itoa_lit (k : Nat) (h : k < 10) : itoa (k : Int) = [UInt8.ofNat (48 + k)] := by rw [itoa_nonneg, decDigits_one h]
theorem size_eq {i : IV} (h : sizeR i = true) : i.size = 1 ∨ i.size = 2 ∨ i.size = 4 ∨ i.size = 8 := by
  unfold sizeR at h
  simp only [Bool.or_eq_true, decide_eq_true_eq] at h
  omega
theorem way_load {n : Int} (h : n = 1 ∨ n = 2 ∨ n = 4 ∨ n = 8) : wayP (loadW ++ itoa n) = some ({ iv0 14 with size := n }, .load) := by
  rcases h with rfl | rfl | rfl | rfl
  · rw [show (1 : Int) = ((1 : Nat) : Int) from rfl, itoa_lit 1 (by decide)]; decide +kernel
  · rw [show (2 : Int) = ((2 : Nat) : Int) from rfl, itoa_lit 2 (by decide)]; decide +kernel
  · rw [show (4 : Int) = ((4 : Nat) : Int) from rfl, itoa_lit 4 (by decide)]; decide +kernel
  · rw [show (8 : Int) = ((8 : Nat) : Int) from rfl, itoa_lit 8 (by decide)]; decide +kernel
theorem way_put {n : Int} (h : n = 1 ∨ n = 2 ∨ n = 4 ∨ n = 8) : wayP (putW ++ itoa n) = some ({ iv0 15 with size := n }, .put) := by
  rcases h with rfl | rfl | rfl | rfl
  · rw [show (1 : Int) = ((1 : Nat) : Int) from rfl, itoa_lit 1 (by decide)]; decide +kernel
  · rw [show (2 : Int) = ((2 : Nat) : Int) from rfl, itoa_lit 2 (by decide)]; decide +kernel
  · rw [show (4 : Int) = ((4 : Nat) : Int) from rfl, itoa_lit 4 (by decide)]; decide +kernel
  · rw [show (8 : Int) = ((8 : Nat) : Int) from rfl, itoa_lit 8 (by decide)]; decide +kernel
theorem wt_sized {w : Nm} {n : Int} (hw : w.all wordC = true) (h : 0 ≤ n) : Wt (w ++ itoa n) [w ++ itoa n] := by
  refine wt_word ?_ ?_
  · rw [List.all_append, hw, itoa_pos h, dec_word]; rfl
  · rw [itoa_pos h]; intro e; exact dec_ne _ (List.append_eq_nil_iff.1 e).2
theorem regP_other {s : Nm} (h : s.head? ≠ some 114) : regP s = none := by
  unfold regP
  rw [Option.map_eq_none_iff, List.idxOf?_eq_none_iff]
  intro hm
  have : ∀ x ∈ regNs, x.head? = some 114 := by decide
  exact h (this s hm)
theorem regP_reg {n : Int} (h1 : 0 ≤ n) (h2 : n ≤ 10) : regP (regN n) = some n := by
  have : n = 0 ∨ n = 1 ∨ n = 2 ∨ n = 3 ∨ n = 4 ∨ n = 5 ∨ n = 6 ∨ n = 7 ∨ n = 8 ∨ n = 9 ∨ n = 10 := by omega
  unfold regN
  rw [itoa_pos h1]
  rcases this with rfl | rfl | rfl | rfl | rfl | rfl | rfl | rfl | rfl | rfl | rfl
  all_goals (first | rw [decDigits_one (by decide)] | rw [decDigits_two (by decide) (by decide)])
  all_goals decide +kernel
theorem dec_head_dig (u : Nat) : ∀ c, (decDigits u).head? = some c → 48 ≤ c.toNat ∧ c.toNat ≤ 57 := by
  intro c hc
  exact (digC_iff c).1 (dec_dig u c (List.mem_of_mem_head? hc))
theorem dec_not {u : Nat} {c : UInt8} (h : ¬ (48 ≤ c.toNat ∧ c.toNat ≤ 57)) (t : Nm) : decDigits u ≠ c :: t := by
  intro e
  exact h (dec_head_dig u c (by rw [e]; rfl))
theorem regP_dec (u : Nat) : regP (decDigits u) = none := regP_other fun e => absurd (dec_head_dig u 114 e) (by decide)
theorem sign_back {n : Int} (h : inI n (-2147483648) 2147483647 = true) (r : List Nm) : signT (signL n ++ r) = some (n, r) := by
  have h := inI_iff.1 h
  unfold signL
  split
  · next hn =>
    simp only [List.cons_append, List.nil_append, signT, numT, numP_dec (show n.natAbs < 10000000000 by omega)]
    simp
    omega
  · next hn =>
    simp only [List.cons_append, List.nil_append, signT, numT, numP_dec (show n.natAbs < 10000000000 by omega)]
    simp
    omega
theorem far_in {i : IV} (h : farR i = true) : inI i.off (-2147483648) 2147483647 = true := by
  have := inI_iff.1 h
  exact inI_iff.2 (by omega)
theorem sec_back {i j : IV} (h : secR i = true) (hj : j.useImm = false ∧ j.imm = 0 ∧ j.src = 0) (r : List Nm) : secT j (lastL i ++ r) = some ({ j with src := i.src, useImm := i.useImm, imm := i.imm }, r) := by
  unfold secR at h
  unfold lastL
  obtain ⟨j1, j2, j3⟩ := hj
  cases hu : i.useImm with
  | true =>
    rw [hu] at h
    simp only [if_true, Bool.and_eq_true, decide_eq_true_eq] at h ⊢
    obtain ⟨h1, h2⟩ := h
    have h2 := inI_iff.1 h2
    by_cases hn : i.imm < 0
    · simp only [hn, if_true, List.cons_append, List.nil_append, secT, numT]
      rw [regP_other (by decide)]
      simp only
      rw [numP_dec (by omega)]
      simp [h1, j3]
      omega
    · simp only [hn, if_false, List.cons_append, List.nil_append, secT]
      rw [regP_dec]
      simp only
      rw [if_neg (fun e => dec_not (c := 45) (by decide) [] e), numP_dec (by omega)]
      simp [h1, j3]
      omega
  | false =>
    rw [hu] at h
    simp only [Bool.false_eq_true, if_false, Bool.and_eq_true, decide_eq_true_eq] at h ⊢
    obtain ⟨h1, h2⟩ := h
    have h1 := inI_iff.1 h1
    simp only [List.cons_append, List.nil_append, secT, regP_reg h1.1 h1.2]
    simp [h2, j1, j2]
theorem must_back (x : Nm) (r : List Nm) : mustP x (x :: r) = some r := by simp [mustP]
theorem regT_back {n : Int} (h : inI n 0 10 = true) (r : List Nm) : regT (regN n :: r) = some (n, r) := by
  have := inI_iff.1 h
  simp [regT, regP_reg this.1 this.2]
theorem cell_back {n off : Int} (h : inI n 0 10 = true) (h2 : inI off (-2147483648) 2147483647 = true) (r : List Nm) : cellT (cellL n off ++ r) = some (n, off, r) := by
  unfold cellT cellL
  simp only [List.cons_append, must_back, Option.bind_some, regT_back h, List.append_assoc, sign_back h2, List.nil_append, Option.map_some]
theorem sign_head (n : Int) : ∃ c t, signL n = [c] :: t ∧ (c = 45 ∨ c = 43) := by
  unfold signL
  split
  · exact ⟨45, _, rfl, .inl rfl⟩
  · exact ⟨43, _, rfl, .inr rfl⟩
theorem to_back {i : IV} {off : Int} (h2 : inI off (-2147483648) 2147483647 = true) (r : List Nm) : toT i (signL off ++ r) = some ({ i with off := off }, [], r) := by
  have hs := sign_back h2 r
  obtain ⟨c, t, e, hc⟩ := sign_head off
  rw [e] at hs ⊢
  simp only [List.cons_append] at hs ⊢
  have hl : labelP [c] = false := by rcases hc with rfl | rfl <;> decide
  simp only [toT, hl, hs]
  rfl
theorem in9 {n : Int} (h : inI n 0 9 = true) : inI n 0 10 = true := by
  have := inI_iff.1 h
  exact inI_iff.2 (by omega)
theorem alu_back {i j : IV} (hd : inI i.dst 0 10 = true) (h : secR i = true) (hj : j.useImm = false ∧ j.imm = 0 ∧ j.src = 0) (r : List Nm) : aluT j (regN i.dst :: [44] :: (lastL i ++ r)) = some ({ j with dst := i.dst, src := i.src, useImm := i.useImm, imm := i.imm }, r) := by
  unfold aluT
  simp only [regT_back hd, Option.bind_some, must_back]
  exact sec_back (j := { j with dst := i.dst }) h hj r
theorem sec_src {i : IV} (h : secR i = true) : i.useImm = false → 0 ≤ i.src := by
  intro hu
  unfold secR at h
  rw [hu] at h
  simp only [Bool.false_eq_true, if_false, Bool.and_eq_true] at h
  exact (inI_iff.1 h.1).1
theorem toks_show {i : IV} (h : rightP i = true) : Wt (showI i) (tokI i) := by
  unfold rightP at h
  unfold showI tokI
  split at h
  · next h1 =>
    simp only [Bool.and_eq_true, decide_eq_true_eq] at h
    obtain ⟨⟨⟨hd, hs⟩, ho⟩, hz⟩ := h
    have hd := inI_iff.1 hd
    simp only [show i.op ≠ 28 by omega, show i.op ≠ 16 by omega, show i.op ≠ 14 by omega, show i.op ≠ 15 by omega, show i.op ≠ 13 by omega, show ¬ 17 ≤ i.op by omega, if_false, List.append_nil]
    exact wt_wt (wt_first (.inl (by omega))) (wt_blank (wt_wt (wt_reg hd.1) (wt_sign (by decide) (wt_blank (wt_last (sec_src hs)))) (nw_cons (by decide)) (by simp))) (nw_cons (by decide)) (by simp)
  · split at h
    · next h0 h1 =>
      simp only [Bool.and_eq_true, decide_eq_true_eq] at h
      have hd := inI_iff.1 h.1
      simp only [show i.op ≠ 28 by omega, show i.op ≠ 16 by omega, show i.op ≠ 14 by omega, show i.op ≠ 15 by omega, h1, if_false, if_true]
      exact wt_wt (wt_first (.inl (by omega))) (wt_blank (wt_reg hd.1)) (nw_cons (by decide)) (by simp)
    · split at h
      · next h0 h00 h1 =>
        simp only [Bool.and_eq_true, decide_eq_true_eq] at h
        obtain ⟨⟨⟨⟨hd, hs⟩, hf⟩, hz⟩, he⟩ := h
        have hd := inI_iff.1 hd
        have hs := inI_iff.1 hs
        have hz := size_eq hz
        simp only [show i.op ≠ 28 by omega, show i.op ≠ 16 by omega, h1, if_false, if_true]
        have := wt_wt (wt_sized (w := loadW) (by decide) (n := i.size) (by omega)) (wt_blank (wt_wt (wt_reg hd.1) (wt_sign (c := 44) (by decide) (wt_blank (wt_cell (off := i.off) hs.1).wt)) (nw_cons (by decide)) (by simp))) (nw_cons (by decide)) (by simp)
        simpa using this
      · split at h
        · next h0 h00 h000 h1 =>
          simp only [Bool.and_eq_true, decide_eq_true_eq, Bool.not_eq_true'] at h
          obtain ⟨⟨⟨⟨hd, hf⟩, hz⟩, hs⟩, he⟩ := h
          have hd := inI_iff.1 hd
          have hz := size_eq hz
          simp only [show i.op ≠ 28 by omega, show i.op ≠ 16 by omega, show i.op ≠ 14 by omega, h1, if_false, if_true]
          have := wt_wt (wt_sized (w := putW) (by decide) (n := i.size) (by omega)) (wt_blank (zt_wt (wt_cell (off := i.off) hd.1) (wt_sign (c := 44) (by decide) (wt_blank (wt_last (sec_src hs)))))) (nw_cons (by decide)) (by simp)
          simpa using this
        · split at h
          · next h0 h00 h000 h0000 h1 =>
            simp only [show i.op ≠ 28 by omega, h1, if_false, if_true]
            exact wt_wt (wt_word (w := jumpW) (by decide) (by decide)) (wt_blank (wt_apart (.inl rfl))) (nw_cons (by decide)) (by simp)
          · split at h
            · next h0 h00 h000 h0000 h5 h1 =>
              simp only [Bool.and_eq_true, decide_eq_true_eq] at h
              obtain ⟨⟨⟨hd, hf⟩, hs⟩, hz⟩ := h
              have hd := inI_iff.1 hd
              simp only [show i.op ≠ 28 by omega, show i.op ≠ 16 by omega, show i.op ≠ 14 by omega, show i.op ≠ 15 by omega, show i.op ≠ 13 by omega, h1.1, if_false, if_true]
              have := wt_wt (wt_first (i := i) (.inr (by omega))) (wt_blank (wt_wt (wt_reg hd.1) (wt_sign (c := 44) (by decide) (wt_blank (wt_wt (wt_last (sec_src hs)) (wt_sign (c := 44) (by decide) (wt_blank (wt_apart (n := i.off) (.inl rfl)))) (nw_cons (by decide)) (by simp)))) (nw_cons (by decide)) (by simp))) (nw_cons (by decide)) (by simp)
              simpa using this
            · have h := of_decide_eq_true h
              rw [h]
              exact wt_word (w := exitW) (by decide) (by decide)
theorem inst_show {i : IV} (h : rightP i = true) : instP (tokI i) = some (i, []) := by
  unfold rightP at h
  unfold tokI instP
  split at h
  · next h1 =>
    simp only [Bool.and_eq_true, decide_eq_true_eq] at h
    obtain ⟨⟨⟨hd, hs⟩, ho⟩, hz⟩ := h
    simp only [show i.op ≠ 28 by omega, show i.op ≠ 16 by omega, show i.op ≠ 14 by omega, show i.op ≠ 15 by omega, show i.op ≠ 13 by omega, show ¬ 17 ≤ i.op by omega, if_false]
    unfold firstS
    rw [way_alu i.narrow h1.1 h1.2]
    simp only [restT]
    rw [alu_back (in9 hd) hs ⟨rfl, rfl, rfl⟩ []]
    simp only [Option.map_some]
    cases i
    simp_all [iv0]
  · split at h
    · next h0 h1 =>
      simp only [Bool.and_eq_true, decide_eq_true_eq] at h
      simp only [h1, Int.reduceEq, if_false, if_true]
      unfold firstS
      rw [h1, way_neg]
      simp only [restT]
      rw [regT_back (in9 h.1)]
      simp only [Option.map_some]
      rw [← h.2]
    · split at h
      · next h0 h00 h1 =>
        simp only [Bool.and_eq_true, decide_eq_true_eq] at h
        obtain ⟨⟨⟨⟨hd, hs⟩, hf⟩, hz⟩, he⟩ := h
        simp only [h1, Int.reduceEq, if_false, if_true]
        rw [way_load (size_eq hz)]
        have hc := cell_back hs (far_in hf) []
        rw [List.append_nil] at hc
        simp only [restT, regT_back (in9 hd), Option.bind_some, must_back, hc, Option.map_some]
        rw [← he]
      · split at h
        · next h0 h00 h000 h1 =>
          simp only [Bool.and_eq_true, decide_eq_true_eq, Bool.not_eq_true'] at h
          obtain ⟨⟨⟨⟨hd, hf⟩, hz⟩, hs⟩, he⟩ := h
          simp only [h1, Int.reduceEq, if_false, if_true]
          rw [way_put (size_eq hz)]
          have hl := sec_back (j := { iv0 15 with size := i.size, dst := i.dst, off := i.off }) hs ⟨rfl, rfl, rfl⟩ []
          rw [List.append_nil] at hl
          simp only [restT, cell_back hd (far_in hf), Option.bind_some, must_back, hl, Option.map_some]
          cases i
          simp_all [iv0]
        · split at h
          · next h0 h00 h000 h0000 h1 =>
            simp only [Bool.and_eq_true, decide_eq_true_eq] at h
            simp only [h1, Int.reduceEq, if_false, if_true]
            rw [show wayP jumpW = some (iv0 16, .far) by decide +kernel]
            have ht := to_back (i := iv0 16) (far_in h.1) []
            rw [List.append_nil] at ht
            simp only [restT, ht]
            rw [← h.2]
          · split at h
            · next h0 h00 h000 h0000 h5 h1 =>
              simp only [Bool.and_eq_true, decide_eq_true_eq] at h
              obtain ⟨⟨⟨hd, hf⟩, hs⟩, hz⟩ := h
              simp only [show i.op ≠ 28 by omega, show i.op ≠ 16 by omega, show i.op ≠ 14 by omega, show i.op ≠ 15 by omega, show i.op ≠ 13 by omega, h1.1, if_false, if_true]
              unfold firstS
              rw [way_ask i.narrow h1.1 h1.2]
              simp only [restT]
              rw [alu_back hd hs ⟨rfl, rfl, rfl⟩ _]
              have ht := to_back (i := { iv0 i.op with narrow := i.narrow, dst := i.dst, src := i.src, useImm := i.useImm, imm := i.imm }) (far_in hf) []
              rw [List.append_nil] at ht
              simp only [Option.bind_some, must_back, ht]
              cases i
              simp_all [iv0]
            · have h := of_decide_eq_true h
              rw [h]
              decide +kernel
end Go.Proofs.YtjebjninlejoeaaGreatDoor
