/- text, the plain law: what is shown has these tokens. -/
import Derived.Test.YtjebjninlejoeaaGreatDoorP2
namespace Go.Proofs.YtjebjninlejoeaaGreatDoor
open Go.Lib
set_option linter.unusedVariables false
set_option linter.unusedSimpArgs false

def regN (n : Int) : Nm := 114 :: itoa n
def apartS (n : Int) (b : Nm) : Nm := if n < 0 then 45 :: (b ++ itoa (-n)) else 43 :: (b ++ itoa n)
def lastS (i : IV) : Nm := if i.useImm then itoa i.imm else regN i.src
def cellS (n off : Int) : Nm := 91 :: (regN n ++ 32 :: (apartS off [32] ++ [93]))
def baseS (op : Int) : Nm := if 17 ≤ op then qus.getD (op - 17).toNat [] else ops.getD (op - 1).toNat []
def firstS (i : IV) : Nm := baseS i.op ++ (if i.narrow then n32 else [])
/-- An instruction's line. -/
def showI (i : IV) : Nm :=
  if i.op = 28 then exitW
  else if i.op = 16 then jumpW ++ 32 :: apartS i.off []
  else if i.op = 14 then loadW ++ (itoa i.size ++ 32 :: (regN i.dst ++ 44 :: 32 :: cellS i.src i.off))
  else if i.op = 15 then putW ++ (itoa i.size ++ 32 :: (cellS i.dst i.off ++ 44 :: 32 :: lastS i))
  else if i.op = 13 then firstS i ++ 32 :: regN i.dst
  else firstS i ++ 32 :: (regN i.dst ++ 44 :: 32 :: (lastS i ++ (if 17 ≤ i.op then 44 :: 32 :: apartS i.off [] else [])))
def showP (l : List IV) : Nm := l.flatMap fun i => showI i ++ [10]
/-- No word begins here. -/
def Nw (r : Nm) : Prop := ∀ c, r.head? = some c → wordC c = false
/-- Behind these bytes, and no word's byte, these tokens have been read. -/
def Wt (s : Nm) (l : List Nm) : Prop := ∀ r, Nw r → toks (s ++ r) = (toks r).map (l ++ ·)
def Zt (s : Nm) (l : List Nm) : Prop := ∀ r, toks (s ++ r) = (toks r).map (l ++ ·)
theorem toksA_word : ∀ (w : Nm) (cur r : Nm), w.all wordC = true → (∀ c ∈ w, c ≠ 35) → toksA cur (w ++ r) = toksA (cur ++ w) r
  | [], cur, r, _, _ => by simp
  | c :: w, cur, r, h, h2 => by
    simp only [List.all_cons, Bool.and_eq_true] at h
    rw [List.cons_append, toksA, if_neg (h2 c (List.mem_cons_self ..)), if_pos h.1, toksA_word w _ r h.2 (fun c hc => h2 c (List.mem_cons_of_mem _ hc))]
    simp
theorem word_ne {c : UInt8} (h : wordC c = true) : c ≠ 35 := by rintro rfl; exact absurd h (by decide)
theorem toksA_cur : ∀ (cur r : Nm), cur ≠ [] → Nw r → toksA cur r = (toks r).map (cur :: ·)
  | cur, [], h, _ => by simp [toksA, flush, toks, h]
  | cur, c :: r, h, hn => by
    have hw : wordC c = false := hn c rfl
    unfold toks
    simp only [toksA]
    by_cases h1 : c = 35
    · simp [h1, flush, h]
    · rw [if_neg h1, if_neg h1]
      simp only [hw, Bool.false_eq_true, if_false]
      by_cases h2 : blankC c = true
      · simp [h2, flush, h]
      · simp only [h2, Bool.false_eq_true, if_false]
        by_cases h3 : signC c = true
        · simp [h3, flush, h]
        · simp [h3]
theorem wt_word {w : Nm} (h : w.all wordC = true) (h0 : w ≠ []) : Wt w [w] := by
  intro r hr
  unfold toks
  rw [toksA_word w [] r h (fun c hc => word_ne (List.all_eq_true.1 h c hc)), List.nil_append, toksA_cur w r h0 hr]
  rfl
theorem zt_sign {c : UInt8} (h : signC c = true) : Zt [c] [[c]] := by
  intro r
  have h1 : c ≠ 35 := by rintro rfl; exact absurd h (by decide)
  have h2 : wordC c = false := by
    unfold signC at h
    simp only [Bool.or_eq_true, decide_eq_true_eq] at h
    rcases h with ((((h | h) | h) | h) | h) | h <;> subst h <;> decide
  have h3 : blankC c = false := by
    unfold signC at h
    simp only [Bool.or_eq_true, decide_eq_true_eq] at h
    rcases h with ((((h | h) | h) | h) | h) | h <;> subst h <;> decide
  unfold toks
  rw [List.cons_append, List.nil_append, toksA, if_neg h1]
  simp [h2, h3, h, flush]
theorem zt_blank {c : UInt8} (h : blankC c = true) : Zt [c] [] := by
  intro r
  have h1 : c ≠ 35 := by rintro rfl; exact absurd h (by decide)
  have h2 : wordC c = false := by
    unfold blankC at h
    simp only [Bool.or_eq_true, decide_eq_true_eq] at h
    rcases h with (h | h) | h <;> subst h <;> decide
  unfold toks
  rw [List.cons_append, List.nil_append, toksA, if_neg h1]
  simp [h2, h, flush]
theorem map_app (l l' : List Nm) (r : Option (List Nm)) : (r.map (l' ++ ·)).map (l ++ ·) = r.map ((l ++ l') ++ ·) := by cases r <;> simp
theorem nw_app {s r : Nm} (h : Nw s) (h0 : s ≠ []) : Nw (s ++ r) := by
  intro c hc
  rw [head_app h0] at hc
  exact h c hc
theorem nw_cons {c : UInt8} {r : Nm} (h : wordC c = false) : Nw (c :: r) := by
  intro d hd
  injection hd with hd
  subst hd
  exact h
theorem nw_nil : Nw [] := by intro c hc; cases hc
theorem zt_wt {s s' : Nm} {l l' : List Nm} (h : Zt s l) (h' : Wt s' l') : Wt (s ++ s') (l ++ l') := by
  intro r hr
  rw [List.append_assoc, h, h' r hr, map_app]
theorem wt_wt {s s' : Nm} {l l' : List Nm} (h : Wt s l) (h' : Wt s' l') (hn : Nw s') (h0 : s' ≠ []) : Wt (s ++ s') (l ++ l') := by
  intro r hr
  rw [List.append_assoc, h _ (nw_app hn h0), h' r hr, map_app]
theorem zt_zt {s s' : Nm} {l l' : List Nm} (h : Zt s l) (h' : Zt s' l') : Zt (s ++ s') (l ++ l') := by
  intro r
  rw [List.append_assoc, h, h' r, map_app]
theorem Zt.wt {s : Nm} {l : List Nm} (h : Zt s l) : Wt s l := fun r _ => h r
theorem Wt.toks {s : Nm} {l : List Nm} (h : Wt s l) : toks s = some l := by
  have := h [] nw_nil
  rw [List.append_nil] at this
  rw [this]
  simp [Go.Proofs.YtjebjninlejoeaaGreatDoor.toks, toksA, flush]
theorem zt_nil : Zt [] [] := by intro r; cases h : toks r <;> simp [h]
/-- a blank, a sign ahead -/
theorem wt_blank {s : Nm} {l : List Nm} (h : Wt s l) : Wt (32 :: s) l := zt_wt (zt_blank (c := 32) (by decide)) h
theorem wt_sign {c : UInt8} (hc : signC c = true) {s : Nm} {l : List Nm} (h : Wt s l) : Wt (c :: s) ([c] :: l) := zt_wt (zt_sign hc) h
theorem dig_word {c : UInt8} (h : digitC c = true) : wordC c = true := by
  unfold digitC at h
  unfold wordC
  rw [h]
  simp
theorem dec_word (u : Nat) : (decDigits u).all wordC = true := List.all_eq_true.2 fun b hb => dig_word (dec_dig u b hb)
theorem wt_dec (u : Nat) : Wt (decDigits u) [decDigits u] := wt_word (dec_word u) (dec_ne u)
/-- A number with its sign: its tokens. -/
def signL (n : Int) : List Nm := if n < 0 then [[45], decDigits n.natAbs] else [[43], decDigits n.natAbs]
def lastL (i : IV) : List Nm := if i.useImm then (if i.imm < 0 then [[45], decDigits i.imm.natAbs] else [decDigits i.imm.natAbs]) else [regN i.src]
def cellL (n off : Int) : List Nm := [91] :: regN n :: (signL off ++ [[93]])
def tokI (i : IV) : List Nm :=
  if i.op = 28 then [exitW]
  else if i.op = 16 then jumpW :: signL i.off
  else if i.op = 14 then (loadW ++ itoa i.size) :: regN i.dst :: [44] :: cellL i.src i.off
  else if i.op = 15 then (putW ++ itoa i.size) :: (cellL i.dst i.off ++ [44] :: lastL i)
  else if i.op = 13 then [firstS i, regN i.dst]
  else firstS i :: regN i.dst :: [44] :: (lastL i ++ (if 17 ≤ i.op then [44] :: signL i.off else []))
theorem itoa_pos {n : Int} (h : 0 ≤ n) : itoa n = decDigits n.natAbs := by unfold itoa; rw [if_neg (by omega)]; congr 1; omega
theorem itoa_minus {n : Int} (h : n < 0) : itoa n = 45 :: decDigits n.natAbs := by unfold itoa; rw [if_pos h]
theorem reg_word {n : Int} (h : 0 ≤ n) : (regN n).all wordC = true := by
  unfold regN
  rw [itoa_pos h]
  have := dec_word n.natAbs
  simp only [List.all_cons, this, Bool.and_true]
  decide
theorem wt_reg {n : Int} (h : 0 ≤ n) : Wt (regN n) [regN n] := wt_word (reg_word h) (by unfold regN; simp)
theorem wt_apart {n : Int} {b : Nm} (hb : b = [] ∨ b = [32]) : Wt (apartS n b) (signL n) := by
  unfold apartS signL
  split
  · next h =>
    rw [itoa_pos (by omega), show (-n).natAbs = n.natAbs by omega]
    rcases hb with rfl | rfl
    · exact wt_sign (by decide) (wt_dec _)
    · exact wt_sign (by decide) (wt_blank (wt_dec _))
  · next h =>
    rw [itoa_pos (by omega)]
    rcases hb with rfl | rfl
    · exact wt_sign (by decide) (wt_dec _)
    · exact wt_sign (by decide) (wt_blank (wt_dec _))
theorem wt_last {i : IV} (h : i.useImm = false → 0 ≤ i.src) : Wt (lastS i) (lastL i) := by
  unfold lastS lastL
  cases hu : i.useImm with
  | true =>
    simp only [if_true]
    by_cases hn : i.imm < 0
    · rw [if_pos hn, itoa_minus hn]
      exact wt_sign (by decide) (wt_dec _)
    · rw [if_neg hn, itoa_pos (by omega)]
      exact wt_dec _
  | false =>
    simp only [Bool.false_eq_true, if_false]
    exact wt_reg (h hu)
theorem apart_nw {n : Int} {b r : Nm} : Nw (apartS n b ++ r) := by unfold apartS; split <;> exact nw_cons (by decide)
theorem wt_cell {n off : Int} (h : 0 ≤ n) : Zt (cellS n off) (cellL n off) := by
  intro r
  unfold cellS cellL
  have h1 : Wt (91 :: (regN n ++ 32 :: apartS off [32])) ([91] :: regN n :: signL off) := wt_sign (by decide) (wt_wt (wt_reg h) (wt_blank (wt_apart (.inr rfl))) (nw_cons (by decide)) (by simp))
  have e : 91 :: (regN n ++ 32 :: (apartS off [32] ++ [93])) ++ r = (91 :: (regN n ++ 32 :: apartS off [32])) ++ (93 :: r) := by simp
  rw [e, h1 _ (nw_cons (by decide)), show (93 : UInt8) :: r = [93] ++ r from rfl, zt_sign (c := 93) (by decide) r, map_app]
  simp
end Go.Proofs.YtjebjninlejoeaaGreatDoor
