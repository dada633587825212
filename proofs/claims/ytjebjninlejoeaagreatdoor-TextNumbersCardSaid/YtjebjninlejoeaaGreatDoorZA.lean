/- text, the plain law: tokens of a line, instructions, texts; no program in sight. text, the plain law: numbers. text, the plain law: what is shown has these tokens. text, the plain law: a right instruction is read as it was shown. text, the plain law: what is shown is parsed as it was; what is parsed is right. text, the plain law: what is parsed is right; at which line a fault is. text, the plain law: two texts, one behind the other. text, the plain law: what the library's functions say of lines and tokens. text, the plain law: jumps that land. text, the plain law: tokens are no longer than their line; a line adds one at most. text, the plain law: what holds of a text that is being read. text, the plain law of the document's reader: a place among tokens, and a mark that something was not as it must be. text, the plain law: digits read one by one. text, the plain law of the document's reader: its steps put together. text, the plain law of the document's words. -/
import Derived.WalkKit
import Derived.Lib.AtoiAllCases
import Derived.Lib.ItoaLen
import Derived.Lib.Split
import Derived.Lib.SplitLaws
import Derived.Lib.SlTrimSet
import Derived.Lib.IndexMore
namespace Go.Proofs.YtjebjninlejoeaaGreatDoor
set_option linter.unusedVariables false
set_option linter.unusedSimpArgs false

abbrev Nm := List UInt8
/-- An instruction. -/
structure IV where
  op : Int
  narrow : Bool
  dst : Int
  src : Int
  useImm : Bool
  off : Int
  imm : Int
  size : Int
  deriving Inhabited, DecidableEq
/-- One that is only a kind. -/
def iv0 (op : Int) : IV := ⟨op, false, 0, 0, false, 0, 0, 0⟩
def wordC (c : UInt8) : Bool := (decide (97 ≤ c) && decide (c ≤ 122)) || (decide (48 ≤ c) && decide (c ≤ 57)) || decide (c = 95)
def signC (c : UInt8) : Bool := decide (c = 44) || decide (c = 91) || decide (c = 93) || decide (c = 43) || decide (c = 45) || decide (c = 58)
def blankC (c : UInt8) : Bool := decide (c = 9) || decide (c = 13) || decide (c = 32)
def digitC (c : UInt8) : Bool := decide (48 ≤ c) && decide (c ≤ 57)
/-- A word that has been read, ahead of what comes. -/
def flush (cur : Nm) (r : Option (List Nm)) : Option (List Nm) := if cur = [] then r else r.map (cur :: ·)
/-- The tokens of a line; none: something in it is none. -/
def toksA : Nm → List UInt8 → Option (List Nm)
  | cur, [] => flush cur (some [])
  | cur, c :: s =>
    if c = 35 then flush cur (some [])
    else if wordC c then toksA (cur ++ [c]) s
    else if blankC c then flush cur (toksA [] s)
    else if signC c then flush cur ((toksA [] s).map ([c] :: ·))
    else none
def toks (s : List UInt8) : Option (List Nm) := toksA [] s
/-- A number's digits. -/
def numV (s : Nm) : Nat := s.foldl (fun n c => 10 * n + (c.toNat - 48)) 0
def numP (s : Nm) : Option Int := if s.all digitC && decide (1 ≤ s.length) && decide (s.length ≤ 10) && (decide (s.length = 1) || decide (s.head? ≠ some 48)) then some (numV s) else none
/-- A register's name: r0 to r10. -/
def regNs : List Nm := [[114, 48], [114, 49], [114, 50], [114, 51], [114, 52], [114, 53], [114, 54], [114, 55], [114, 56], [114, 57], [114, 49, 48]]
def regP (s : Nm) : Option Int := (regNs.idxOf? s).map fun (n : Nat) => (n : Int)
def labelP (s : Nm) : Bool := match s with | [] => false | c :: t => decide ((c :: t).length ≤ 30) && decide (97 ≤ c) && decide (c ≤ 122)
/-- What comes behind a word. -/
inductive Kind where
  | alu | neg | ask | load | put | far | exit
  deriving Inhabited, DecidableEq
def ops : List Nm := [[97, 100, 100], [115, 117, 98], [109, 117, 108], [100, 105, 118], [109, 111, 100], [97, 110, 100], [111, 114], [120, 111, 114], [115, 104, 108], [115, 104, 114], [115, 97, 114], [109, 111, 118], [110, 101, 103]]
def qus : List Nm := [[106, 101, 113], [106, 110, 101], [106, 103, 116], [106, 103, 101], [106, 108, 116], [106, 108, 101], [106, 115, 103, 116], [106, 115, 103, 101], [106, 115, 108, 116], [106, 115, 108, 101], [106, 115, 101, 116]]
def loadW : Nm := [108, 111, 97, 100]
def putW : Nm := [112, 117, 116]
def jumpW : Nm := [106, 117, 109, 112]
def exitW : Nm := [101, 120, 105, 116]
def n32 : Nm := [51, 50]
def both (k : Nat) (s : Nm) (q : Kind) : List (Nm × (IV × Kind)) := [(s, (iv0 k, q)), (s ++ n32, ({ iv0 k with narrow := true }, q))]
/-- All words, and what they begin. -/
def ways : List (Nm × (IV × Kind)) :=
  (ops.zipIdx.flatMap fun p => both (p.2 + 1) p.1 (if p.2 = 12 then .neg else .alu)) ++ (qus.zipIdx.flatMap fun p => both (p.2 + 17) p.1 .ask)
  ++ ([(49, 1), (50, 2), (52, 4), (56, 8)].flatMap fun (p : UInt8 × Int) => [(loadW ++ [p.1], ({ iv0 14 with size := p.2 }, .load)), (putW ++ [p.1], ({ iv0 15 with size := p.2 }, .put))])
  ++ [(jumpW, (iv0 16, .far)), (exitW, (iv0 28, .exit))]
def wayP (s : Nm) : Option (IV × Kind) := (ways.find? fun p => decide (p.1 = s)).map (·.2)
def mustP (x : Nm) : List Nm → Option (List Nm)
  | [] => none
  | s :: t => if s = x then some t else none
def regT : List Nm → Option (Int × List Nm)
  | [] => none
  | s :: t => (regP s).map (·, t)
def numT : List Nm → Option (Int × List Nm)
  | [] => none
  | s :: t => (numP s).map (·, t)
def signT : List Nm → Option (Int × List Nm)
  | [] => none
  | s :: t => if s = [43] then numT t else if s = [45] then (numT t).map (fun p => (-p.1, p.2)) else none
def secT (i : IV) : List Nm → Option (IV × List Nm)
  | [] => none
  | s :: t => match regP s with
    | some n => some ({ i with src := n }, t)
    | none => if s = [45] then (numT t).map (fun p => ({ i with useImm := true, imm := -p.1 }, p.2)) else (numP s).map fun n => ({ i with useImm := true, imm := n }, t)
/-- A cell: its register, its place. -/
def cellT (l : List Nm) : Option (Int × Int × List Nm) :=
  (mustP [91] l).bind fun l => (regT l).bind fun p => (signT p.2).bind fun q => (mustP [93] q.2).map fun l => (p.1, q.1, l)
def toT (i : IV) : List Nm → Option (IV × Nm × List Nm)
  | [] => none
  | s :: t => if labelP s then some (i, s, t) else (signT (s :: t)).map fun p => ({ i with off := p.1 }, [], p.2)
def aluT (i : IV) (l : List Nm) : Option (IV × List Nm) :=
  (regT l).bind fun p => (mustP [44] p.2).bind fun l => secT { i with dst := p.1 } l
/-- The rest of a line; the label that a jump names. -/
def restT (i : IV) (l : List Nm) : Kind → Option (IV × Nm × List Nm)
  | .alu => (aluT i l).map fun p => (p.1, [], p.2)
  | .neg => (regT l).map fun p => ({ i with dst := p.1 }, [], p.2)
  | .ask => (aluT i l).bind fun p => (mustP [44] p.2).bind fun l => toT p.1 l
  | .load => (regT l).bind fun p => (mustP [44] p.2).bind fun l => (cellT l).map fun q => ({ i with dst := p.1, src := q.1, off := q.2.1 }, [], q.2.2)
  | .put => (cellT l).bind fun q => (mustP [44] q.2.2).bind fun l => (secT { i with dst := q.1, off := q.2.1 } l).map fun p => (p.1, [], p.2)
  | .far => toT i l
  | .exit => some (i, [], l)
/-- An instruction's line. -/
def instP : List Nm → Option (IV × Nm)
  | [] => none
  | s :: t => match wayP s with
    | none => none
    | some (i, k) => match restT i t k with
      | some (i', to, []) => some (i', to)
      | _ => none
def inI (n a b : Int) : Bool := decide (a ≤ n) && decide (n ≤ b)
def secR (i : IV) : Bool := if i.useImm then decide (i.src = 0) && inI i.imm (-2147483648) 2147483647 else inI i.src 0 10 && decide (i.imm = 0)
def farR (i : IV) : Bool := inI i.off (-32768) 32767
def sizeR (i : IV) : Bool := decide (i.size = 1) || decide (i.size = 2) || decide (i.size = 4) || decide (i.size = 8)
/-- Is an instruction right? -/
def rightP (i : IV) : Bool :=
  if 1 ≤ i.op ∧ i.op ≤ 12 then inI i.dst 0 9 && secR i && decide (i.off = 0) && decide (i.size = 0)
  else if i.op = 13 then inI i.dst 0 9 && decide (i = { iv0 13 with narrow := i.narrow, dst := i.dst })
  else if i.op = 14 then inI i.dst 0 9 && inI i.src 0 10 && farR i && sizeR i && decide (i = { iv0 14 with dst := i.dst, src := i.src, off := i.off, size := i.size })
  else if i.op = 15 then inI i.dst 0 10 && farR i && sizeR i && secR i && !i.narrow
  else if i.op = 16 then farR i && decide (i = { iv0 16 with off := i.off })
  else if 17 ≤ i.op ∧ i.op ≤ 27 then inI i.dst 0 10 && farR i && secR i && decide (i.size = 0)
  else decide (i = iv0 28)
/-- A jump to a label. -/
structure Jmp where
  at_ : Nat
  line : Nat
  to : Nm
  deriving Inhabited, DecidableEq
structure PS where
  out : List IV
  jumps : List Jmp
  marks : List (Nm × Nat)
  deriving Inhabited
def markT (t : List Nm) : Option Nm := match t with | [a, b] => if b = [58] ∧ labelP a = true then some a else none | _ => none
def hasM (l : List (Nm × Nat)) (s : Nm) : Option Nat := (l.find? fun p => decide (p.1 = s)).map (·.2)
/-- A line. -/
def stepP (st : PS) (n : Nat) (s : List UInt8) : Except (Int × Nat) PS :=
  match toks s with
  | none => .error (120, n)
  | some [] => .ok st
  | some t => match markT t with
    | some a => match hasM st.marks a with
      | some _ => .error (121, n)
      | none => .ok { st with marks := st.marks ++ [(a, st.out.length)] }
    | none => match instP t with
      | none => .error (120, n)
      | some (i, to) => if rightP i then
          if st.out.length = 4096 then .error (3, n)
          else .ok { st with out := st.out ++ [i], jumps := if to = [] then st.jumps else st.jumps ++ [⟨st.out.length, n, to⟩] }
        else .error (120, n)
def runP : PS → Nat → List (List UInt8) → Except (Int × Nat) PS
  | st, _, [] => .ok st
  | st, n, s :: ss => match stepP st n s with | .error e => .error e | .ok st' => runP st' (n + 1) ss
/-- Jumps land. -/
def landP (marks : List (Nm × Nat)) : List IV → List Jmp → Except (Int × Nat) (List IV)
  | out, [] => .ok out
  | out, j :: js => match hasM marks j.to with
    | none => .error (121, j.line)
    | some at_ => if inI ((at_ : Int) - j.at_ - 1) (-32768) 32767 then landP marks (out.modify j.at_ fun i => { i with off := (at_ : Int) - j.at_ - 1 }) js else .error (121, j.line)
/-- A text's lines. -/
def linesA : Nm → List UInt8 → List (List UInt8)
  | cur, [] => [cur]
  | cur, c :: s => if c = 10 then cur :: linesA [] s else linesA (cur ++ [c]) s
def linesP (s : List UInt8) : List (List UInt8) := linesA [] s
def ps0 : PS := ⟨[], [], []⟩
def parseP (s : List UInt8) : Except (Int × Nat) (List IV) :=
  if 262144 < s.length then .error (3, 0) else match runP ps0 1 (linesP s) with | .error e => .error e | .ok st => landP st.marks st.out st.jumps
end Go.Proofs.YtjebjninlejoeaaGreatDoor
namespace Go.Proofs.YtjebjninlejoeaaGreatDoor
open Go.Lib
set_option linter.unusedVariables false
set_option linter.unusedSimpArgs false

theorem digC_iff (c : UInt8) : digitC c = true ↔ 48 ≤ c.toNat ∧ c.toNat ≤ 57 := by
  simp [digitC, UInt8.le_iff_toNat_le]
theorem dg_dig (n : Nat) (h : n < 10) : digitC (UInt8.ofNat (48 + n)) = true := by
  rw [digC_iff]; simp; omega
theorem dec_big {u : Nat} (h : ¬ u < 10) : decDigits u = decDigits (u / 10) ++ [UInt8.ofNat (48 + u % 10)] := by rw [decDigits, dif_neg h]
theorem dec_dig (u : Nat) : ∀ b ∈ decDigits u, digitC b = true := by
  induction u using Nat.strongRecOn with
  | _ u ih =>
    intro b hb
    by_cases h : u < 10
    · rw [decDigits_one h] at hb
      simp only [List.mem_cons, List.not_mem_nil, or_false] at hb
      rw [hb]; exact dg_dig u h
    · rw [dec_big h] at hb
      rcases List.mem_append.1 hb with h1 | h1
      · exact ih (u / 10) (by omega) b h1
      · simp only [List.mem_cons, List.not_mem_nil, or_false] at h1
        rw [h1]; exact dg_dig _ (by omega)
theorem dec_ne (u : Nat) : decDigits u ≠ [] := by
  rw [decDigits]; split <;> simp
theorem numV_app (s : Nm) (c : UInt8) : numV (s ++ [c]) = 10 * numV s + (c.toNat - 48) := by simp [numV]
theorem ofNat_sub {n : Nat} (h : n < 10) : (UInt8.ofNat (48 + n)).toNat - 48 = n := by simp; omega
theorem numV_dec (u : Nat) : numV (decDigits u) = u := by
  induction u using Nat.strongRecOn with
  | _ u ih =>
    by_cases h : u < 10
    · rw [decDigits_one h]
      have := ofNat_sub h
      simp [numV] at *
      omega
    · rw [dec_big h, numV_app, ih (u / 10) (by omega), ofNat_sub (by omega)]
      omega
theorem head_app {s t : Nm} (h : s ≠ []) : (s ++ t).head? = s.head? := by cases s with | nil => exact absurd rfl h | cons a l => rfl
theorem dec_head {u : Nat} (h : 1 ≤ u) : (decDigits u).head? ≠ some 48 := by
  induction u using Nat.strongRecOn with
  | _ u ih =>
    by_cases h1 : u < 10
    · rw [decDigits_one h1]
      intro e
      simp at e
      have := congrArg UInt8.toNat e
      simp at this
      omega
    · rw [dec_big h1, head_app (dec_ne _)]
      exact ih (u / 10) (by omega) (by omega)
theorem dec_len (u : Nat) : 1 ≤ (decDigits u).length := List.length_pos_iff.2 (dec_ne u)
theorem dec_len10 {u : Nat} : (decDigits u).length ≤ 10 ↔ u < 10000000000 := by
  rw [decDigits_length]
  constructor
  · intro h
    have h1 := lt_pow_nDigits u
    exact Nat.lt_of_lt_of_le h1 (Nat.pow_le_pow_right (by decide) h : 10 ^ nDigits u ≤ 10 ^ 10)
  · intro h
    by_cases h2 : nDigits u ≤ 10
    · exact h2
    · exfalso
      have aux : ∀ v : Nat, ∀ k, k + 1 ≤ nDigits v → 1 ≤ k → 10 ^ k ≤ v := by
        intro v
        induction v using Nat.strongRecOn with
        | _ v ih =>
          intro k hk h1
          by_cases hv : v < 10
          · rw [nDigits_small hv] at hk; omega
          · rw [nDigits_big hv] at hk
            by_cases hk1 : k = 1
            · subst hk1; omega
            · have := ih (v / 10) (by omega) (k - 1) (by omega) (by omega)
              have e : 10 ^ k = 10 ^ (k - 1) * 10 := by rw [← Nat.pow_succ]; congr 1; omega
              omega
      have := aux u 10 (by omega) (by decide)
      omega
theorem dec_of_num : ∀ (n : Nat) (s : Nm), s.length = n → s.all digitC = true → 1 ≤ s.length → (s.length = 1 ∨ s.head? ≠ some 48) → decDigits (numV s) = s
  | 0, s, hn, _, h1, _ => by omega
  | n + 1, s, hn, ha, h1, h2 => by
    have hs : s ≠ [] := by intro e; subst e; simp at h1
    obtain ⟨t, c, rfl⟩ : ∃ t c, s = t ++ [c] := ⟨s.dropLast, s.getLast hs, (List.dropLast_concat_getLast hs).symm⟩
    rw [List.all_append, Bool.and_eq_true] at ha
    obtain ⟨a1, a2⟩ := ha
    simp at a2
    have hc := (digC_iff c).1 a2
    rw [numV_app]
    by_cases ht : t = []
    · subst ht
      have e : 10 * numV [] + (c.toNat - 48) = c.toNat - 48 := by simp [numV]
      rw [e, decDigits_one (by omega)]
      simp
      apply UInt8.toNat.inj
      simp
      omega
    · have hlt : 1 ≤ t.length := List.length_pos_iff.2 ht
      have hh : t.head? ≠ some 48 := by
        rw [head_app ht] at h2
        rcases h2 with h2 | h2
        · simp at h2; exact absurd h2 ht
        · exact h2
      have ih := dec_of_num n t (by simp at hn; omega) a1 hlt (.inr hh)
      have hp : 1 ≤ numV t := by
        by_cases h0 : numV t = 0
        · rw [h0, decDigits_one (by decide)] at ih
          rw [← ih] at hh
          simp at hh
        · omega
      rw [dec_big (by omega), show (10 * numV t + (c.toNat - 48)) / 10 = numV t by omega, show (10 * numV t + (c.toNat - 48)) % 10 = c.toNat - 48 by omega, ih]
      congr 2
      apply UInt8.toNat.inj
      simp
      omega
theorem numP_dec {u : Nat} (h : u < 10000000000) : numP (decDigits u) = some (u : Int) := by
  unfold numP
  have h1 : (decDigits u).all digitC = true := List.all_eq_true.2 (dec_dig u)
  have h2 := dec_len u
  have h3 := dec_len10.2 h
  have h4 : (decDigits u).length = 1 ∨ (decDigits u).head? ≠ some 48 := by
    by_cases hu : u = 0
    · left; rw [hu, decDigits_one (by decide)]; rfl
    · right; exact dec_head (by omega)
  rw [if_pos (by simp [h1, h2, h3, h4]), numV_dec]
theorem numP_some {s : Nm} {n : Int} (h : numP s = some n) : ∃ u : Nat, n = u ∧ s = decDigits u ∧ u < 10000000000 := by
  unfold numP at h
  split at h
  · next hc =>
    simp only [Bool.and_eq_true, Bool.or_eq_true, decide_eq_true_eq] at hc
    obtain ⟨⟨⟨h1, h2⟩, h3⟩, h4⟩ := hc
    injection h with h
    have := dec_of_num s.length s rfl h1 h2 h4
    exact ⟨numV s, h.symm, this.symm, dec_len10.1 (by rw [this]; exact h3)⟩
  · cases h
theorem parse_app : ∀ (l : List UInt8) (c : UInt8) (acc m : Nat), parseUint10 acc l = .ok m → digitC c = true → m < 100000000000 → parseUint10 acc (l ++ [c]) = .ok (m * 10 + (c.toNat - 48))
  | [], c, acc, m, h, hc, hm => by
    simp only [parseUint10] at h
    injection h with h
    subst h
    have := (digC_iff c).1 hc
    simp only [List.nil_append, parseUint10]
    rw [if_pos this, if_neg (by omega), if_neg (by omega)]
  | d :: l, c, acc, m, h, hc, hm => by
    simp only [List.cons_append, parseUint10] at h ⊢
    split at h
    · next h1 =>
      rw [if_pos h1]
      split at h
      · cases h
      · next h2 =>
        rw [if_neg h2]
        split at h
        · cases h
        · next h3 => rw [if_neg h3]; exact parse_app l c _ m h hc hm
    · cases h
theorem parse_dec (u : Nat) (h : u < 10000000000) : parseUint10 0 (decDigits u) = .ok u := by
  induction u using Nat.strongRecOn with
  | _ u ih =>
    by_cases h1 : u < 10
    · rw [decDigits_one h1]
      have := parse_app [] (UInt8.ofNat (48 + u)) 0 0 rfl (dg_dig u h1) (by decide)
      rw [ofNat_sub h1] at this
      simpa using this
    · rw [dec_big h1, parse_app _ _ _ _ (ih (u / 10) (by omega) (by omega)) (dg_dig _ (by omega)) (by omega), ofNat_sub (by omega)]
      congr 1
      omega
/-- What the program's number asks, of a token that does not begin with a sign. -/
theorem num_iff {s : Nm} (hs : s.head? ≠ some 43) (hs2 : s.head? ≠ some 45) (n : Int) : numP s = some n ↔ atoiAll s = .ok n ∧ s.length ≤ 10 ∧ itoa n = s := by
  constructor
  · intro h
    obtain ⟨u, rfl, rfl, hu⟩ := numP_some h
    refine ⟨?_, dec_len10.2 hu, itoa_nonneg u⟩
    cases hd : decDigits u with
    | nil => exact absurd hd (dec_ne u)
    | cons c r =>
      rw [hd] at hs hs2
      simp at hs hs2
      have e1 : c.toNat ≠ 43 := fun e => hs (UInt8.toNat.inj e)
      have e2 : c.toNat ≠ 45 := fun e => hs2 (UInt8.toNat.inj e)
      rw [atoiAll_plain c r e1 e2, ← hd]
      have : parseMag (decDigits u) = .ok u := by unfold parseMag; rw [if_neg (dec_ne u), parse_dec u hu]
      rw [this]
      simp only [signless]
      rw [if_neg (by omega)]
  · rintro ⟨h1, h2, h3⟩
    unfold itoa at h3
    split at h3
    · subst h3; simp at hs2
    · next hn =>
      subst h3
      rw [numP_dec (dec_len10.1 h2)]
      congr 1
      omega
end Go.Proofs.YtjebjninlejoeaaGreatDoor
namespace Go.Proofs.YtjebjninlejoeaaGreatDoor
open Go.Lib
set_option linter.unusedVariables false
set_option linter.unusedSimpArgs false

def regN (n : Int) : Nm := 114 :: itoa n
def apartS (n : Int) (b : Nm) : Nm := if n < 0 then 45 :: (b ++ itoa (-n)) else 43 :: (b ++ itoa n)
def lastS (i : IV) : Nm := if i.useImm then itoa i.imm else regN i.src
def cellS (n off : Int) : Nm := 91 :: (regN n ++ 32 :: (apartS off [32] ++ [93]))
def baseS (op : Int) : Nm := if 17 ≤ op then qus.getD (op - 17).toNat [] else ops.getD (op - 1).toNat []
def firstS (i : IV) : Nm := baseS i.op ++ (if i.narrow then n32 else [])
/-- An instruction's line. -/
def showI (i : IV) : Nm :=
  if i.op = 28 then exitW
  else if i.op = 16 then jumpW ++ 32 :: apartS i.off []
  else if i.op = 14 then loadW ++ (itoa i.size ++ 32 :: (regN i.dst ++ 44 :: 32 :: cellS i.src i.off))
  else if i.op = 15 then putW ++ (itoa i.size ++ 32 :: (cellS i.dst i.off ++ 44 :: 32 :: lastS i))
  else if i.op = 13 then firstS i ++ 32 :: regN i.dst
  else firstS i ++ 32 :: (regN i.dst ++ 44 :: 32 :: (lastS i ++ (if 17 ≤ i.op then 44 :: 32 :: apartS i.off [] else [])))
def showP (l : List IV) : Nm := l.flatMap fun i => showI i ++ [10]
/-- No word begins here. -/
def Nw (r : Nm) : Prop := ∀ c, r.head? = some c → wordC c = false
/-- Behind these bytes, and no word's byte, these tokens have been read. -/
def Wt (s : Nm) (l : List Nm) : Prop := ∀ r, Nw r → toks (s ++ r) = (toks r).map (l ++ ·)
def Zt (s : Nm) (l : List Nm) : Prop := ∀ r, toks (s ++ r) = (toks r).map (l ++ ·)
theorem toksA_word : ∀ (w : Nm) (cur r : Nm), w.all wordC = true → (∀ c ∈ w, c ≠ 35) → toksA cur (w ++ r) = toksA (cur ++ w) r
  | [], cur, r, _, _ => by simp
  | c :: w, cur, r, h, h2 => by
    simp only [List.all_cons, Bool.and_eq_true] at h
    rw [List.cons_append, toksA, if_neg (h2 c (List.mem_cons_self ..)), if_pos h.1, toksA_word w _ r h.2 (fun c hc => h2 c (List.mem_cons_of_mem _ hc))]
    simp
theorem word_ne {c : UInt8} (h : wordC c = true) : c ≠ 35 := by rintro rfl; exact absurd h (by decide)
theorem toksA_cur : ∀ (cur r : Nm), cur ≠ [] → Nw r → toksA cur r = (toks r).map (cur :: ·)
  | cur, [], h, _ => by simp [toksA, flush, toks, h]
  | cur, c :: r, h, hn => by
    have hw : wordC c = false := hn c rfl
    unfold toks
    simp only [toksA]
    by_cases h1 : c = 35
    · simp [h1, flush, h]
    · rw [if_neg h1, if_neg h1]
      simp only [hw, Bool.false_eq_true, if_false]
      by_cases h2 : blankC c = true
      · simp [h2, flush, h]
      · simp only [h2, Bool.false_eq_true, if_false]
        by_cases h3 : signC c = true
        · simp [h3, flush, h]
        · simp [h3]
theorem wt_word {w : Nm} (h : w.all wordC = true) (h0 : w ≠ []) : Wt w [w] := by
  intro r hr
  unfold toks
  rw [toksA_word w [] r h (fun c hc => word_ne (List.all_eq_true.1 h c hc)), List.nil_append, toksA_cur w r h0 hr]
  rfl
theorem zt_sign {c : UInt8} (h : signC c = true) : Zt [c] [[c]] := by
  intro r
  have h1 : c ≠ 35 := by rintro rfl; exact absurd h (by decide)
  have h2 : wordC c = false := by
    unfold signC at h
    simp only [Bool.or_eq_true, decide_eq_true_eq] at h
    rcases h with ((((h | h) | h) | h) | h) | h <;> subst h <;> decide
  have h3 : blankC c = false := by
    unfold signC at h
    simp only [Bool.or_eq_true, decide_eq_true_eq] at h
    rcases h with ((((h | h) | h) | h) | h) | h <;> subst h <;> decide
  unfold toks
  rw [List.cons_append, List.nil_append, toksA, if_neg h1]
  simp [h2, h3, h, flush]
theorem zt_blank {c : UInt8} (h : blankC c = true) : Zt [c] [] := by
  intro r
  have h1 : c ≠ 35 := by rintro rfl; exact absurd h (by decide)
  have h2 : wordC c = false := by
    unfold blankC at h
    simp only [Bool.or_eq_true, decide_eq_true_eq] at h
    rcases h with (h | h) | h <;> subst h <;> decide
  unfold toks
  rw [List.cons_append, List.nil_append, toksA, if_neg h1]
  simp [h2, h, flush]
theorem map_app (l l' : List Nm) (r : Option (List Nm)) : (r.map (l' ++ ·)).map (l ++ ·) = r.map ((l ++ l') ++ ·) := by cases r <;> simp
theorem nw_app {s r : Nm} (h : Nw s) (h0 : s ≠ []) : Nw (s ++ r) := by
  intro c hc
  rw [head_app h0] at hc
  exact h c hc
theorem nw_cons {c : UInt8} {r : Nm} (h : wordC c = false) : Nw (c :: r) := by
  intro d hd
  injection hd with hd
  subst hd
  exact h
theorem nw_nil : Nw [] := by intro c hc; cases hc
theorem zt_wt {s s' : Nm} {l l' : List Nm} (h : Zt s l) (h' : Wt s' l') : Wt (s ++ s') (l ++ l') := by
  intro r hr
  rw [List.append_assoc, h, h' r hr, map_app]
theorem wt_wt {s s' : Nm} {l l' : List Nm} (h : Wt s l) (h' : Wt s' l') (hn : Nw s') (h0 : s' ≠ []) : Wt (s ++ s') (l ++ l') := by
  intro r hr
  rw [List.append_assoc, h _ (nw_app hn h0), h' r hr, map_app]
theorem zt_zt {s s' : Nm} {l l' : List Nm} (h : Zt s l) (h' : Zt s' l') : Zt (s ++ s') (l ++ l') := by
  intro r
  rw [List.append_assoc, h, h' r, map_app]
theorem Zt.wt {s : Nm} {l : List Nm} (h : Zt s l) : Wt s l := fun r _ => h r
theorem Wt.toks {s : Nm} {l : List Nm} (h : Wt s l) : toks s = some l := by
  have := h [] nw_nil
  rw [List.append_nil] at this
  rw [this]
  simp [Go.Proofs.YtjebjninlejoeaaGreatDoor.toks, toksA, flush]
theorem zt_nil : Zt [] [] := by intro r; cases h : toks r <;> simp [h]
/-- a blank, a sign ahead -/
theorem wt_blank {s : Nm} {l : List Nm} (h : Wt s l) : Wt (32 :: s) l := zt_wt (zt_blank (c := 32) (by decide)) h
theorem wt_sign {c : UInt8} (hc : signC c = true) {s : Nm} {l : List Nm} (h : Wt s l) : Wt (c :: s) ([c] :: l) := zt_wt (zt_sign hc) h
theorem dig_word {c : UInt8} (h : digitC c = true) : wordC c = true := by
  unfold digitC at h
  unfold wordC
  rw [h]
  simp
theorem dec_word (u : Nat) : (decDigits u).all wordC = true := List.all_eq_true.2 fun b hb => dig_word (dec_dig u b hb)
theorem wt_dec (u : Nat) : Wt (decDigits u) [decDigits u] := wt_word (dec_word u) (dec_ne u)
/-- A number with its sign: its tokens. -/
def signL (n : Int) : List Nm := if n < 0 then [[45], decDigits n.natAbs] else [[43], decDigits n.natAbs]
def lastL (i : IV) : List Nm := if i.useImm then (if i.imm < 0 then [[45], decDigits i.imm.natAbs] else [decDigits i.imm.natAbs]) else [regN i.src]
def cellL (n off : Int) : List Nm := [91] :: regN n :: (signL off ++ [[93]])
def tokI (i : IV) : List Nm :=
  if i.op = 28 then [exitW]
  else if i.op = 16 then jumpW :: signL i.off
  else if i.op = 14 then (loadW ++ itoa i.size) :: regN i.dst :: [44] :: cellL i.src i.off
  else if i.op = 15 then (putW ++ itoa i.size) :: (cellL i.dst i.off ++ [44] :: lastL i)
  else if i.op = 13 then [firstS i, regN i.dst]
  else firstS i :: regN i.dst :: [44] :: (lastL i ++ (if 17 ≤ i.op then [44] :: signL i.off else []))
theorem itoa_pos {n : Int} (h : 0 ≤ n) : itoa n = decDigits n.natAbs := by unfold itoa; rw [if_neg (by omega)]; congr 1; omega
theorem itoa_minus {n : Int} (h : n < 0) : itoa n = 45 :: decDigits n.natAbs := by unfold itoa; rw [if_pos h]
theorem reg_word {n : Int} (h : 0 ≤ n) : (regN n).all wordC = true := by
  unfold regN
  rw [itoa_pos h]
  have := dec_word n.natAbs
  simp only [List.all_cons, this, Bool.and_true]
  decide
theorem wt_reg {n : Int} (h : 0 ≤ n) : Wt (regN n) [regN n] := wt_word (reg_word h) (by unfold regN; simp)
theorem wt_apart {n : Int} {b : Nm} (hb : b = [] ∨ b = [32]) : Wt (apartS n b) (signL n) := by
  unfold apartS signL
  split
  · next h =>
    rw [itoa_pos (by omega), show (-n).natAbs = n.natAbs by omega]
    rcases hb with rfl | rfl
    · exact wt_sign (by decide) (wt_dec _)
    · exact wt_sign (by decide) (wt_blank (wt_dec _))
  · next h =>
    rw [itoa_pos (by omega)]
    rcases hb with rfl | rfl
    · exact wt_sign (by decide) (wt_dec _)
    · exact wt_sign (by decide) (wt_blank (wt_dec _))
theorem wt_last {i : IV} (h : i.useImm = false → 0 ≤ i.src) : Wt (lastS i) (lastL i) := by
  unfold lastS lastL
  cases hu : i.useImm with
  | true =>
    simp only [if_true]
    by_cases hn : i.imm < 0
    · rw [if_pos hn, itoa_minus hn]
      exact wt_sign (by decide) (wt_dec _)
    · rw [if_neg hn, itoa_pos (by omega)]
      exact wt_dec _
  | false =>
    simp only [Bool.false_eq_true, if_false]
    exact wt_reg (h hu)
theorem apart_nw {n : Int} {b r : Nm} : Nw (apartS n b ++ r) := by unfold apartS; split <;> exact nw_cons (by decide)
theorem wt_cell {n off : Int} (h : 0 ≤ n) : Zt (cellS n off) (cellL n off) := by
  intro r
  unfold cellS cellL
  have h1 : Wt (91 :: (regN n ++ 32 :: apartS off [32])) ([91] :: regN n :: signL off) := wt_sign (by decide) (wt_wt (wt_reg h) (wt_blank (wt_apart (.inr rfl))) (nw_cons (by decide)) (by simp))
  have e : 91 :: (regN n ++ 32 :: (apartS off [32] ++ [93])) ++ r = (91 :: (regN n ++ 32 :: apartS off [32])) ++ (93 :: r) := by simp
  rw [e, h1 _ (nw_cons (by decide)), show (93 : UInt8) :: r = [93] ++ r from rfl, zt_sign (c := 93) (by decide) r, map_app]
  simp
end Go.Proofs.YtjebjninlejoeaaGreatDoor
namespace Go.Proofs.YtjebjninlejoeaaGreatDoor
open Go.Lib
set_option linter.unusedVariables false
set_option linter.unusedSimpArgs false

theorem inI_iff {n a b : Int} : inI n a b = true ↔ a ≤ n ∧ n ≤ b := by simp [inI]
theorem base_word {op : Int} (h : (1 ≤ op ∧ op ≤ 13) ∨ (17 ≤ op ∧ op ≤ 27)) : (baseS op).all wordC = true ∧ baseS op ≠ [] := by
  rcases h with ⟨h1, h2⟩ | ⟨h1, h2⟩
  · have : op = 1 ∨ op = 2 ∨ op = 3 ∨ op = 4 ∨ op = 5 ∨ op = 6 ∨ op = 7 ∨ op = 8 ∨ op = 9 ∨ op = 10 ∨ op = 11 ∨ op = 12 ∨ op = 13 := by omega
    rcases this with rfl | rfl | rfl | rfl | rfl | rfl | rfl | rfl | rfl | rfl | rfl | rfl | rfl <;> decide +kernel
  · have : op = 17 ∨ op = 18 ∨ op = 19 ∨ op = 20 ∨ op = 21 ∨ op = 22 ∨ op = 23 ∨ op = 24 ∨ op = 25 ∨ op = 26 ∨ op = 27 := by omega
    rcases this with rfl | rfl | rfl | rfl | rfl | rfl | rfl | rfl | rfl | rfl | rfl <;> decide +kernel
theorem wt_first {i : IV} (h : (1 ≤ i.op ∧ i.op ≤ 13) ∨ (17 ≤ i.op ∧ i.op ≤ 27)) : Wt (firstS i) [firstS i] := by
  obtain ⟨h1, h2⟩ := base_word h
  refine wt_word ?_ (by unfold firstS; simp [h2])
  unfold firstS
  rw [List.all_append, h1]
  cases i.narrow <;> decide
theorem way_alu {op : Int} (b : Bool) (h1 : 1 ≤ op) (h2 : op ≤ 12) : wayP (baseS op ++ (if b then n32 else [])) = some ({ iv0 op with narrow := b }, .alu) := by
  have : op = 1 ∨ op = 2 ∨ op = 3 ∨ op = 4 ∨ op = 5 ∨ op = 6 ∨ op = 7 ∨ op = 8 ∨ op = 9 ∨ op = 10 ∨ op = 11 ∨ op = 12 := by omega
  rcases this with rfl | rfl | rfl | rfl | rfl | rfl | rfl | rfl | rfl | rfl | rfl | rfl <;> cases b <;> decide +kernel
theorem way_neg (b : Bool) : wayP (baseS 13 ++ (if b then n32 else [])) = some ({ iv0 13 with narrow := b }, .neg) := by cases b <;> decide +kernel
theorem way_ask {op : Int} (b : Bool) (h1 : 17 ≤ op) (h2 : op ≤ 27) : wayP (baseS op ++ (if b then n32 else [])) = some ({ iv0 op with narrow := b }, .ask) := by
  have : op = 17 ∨ op = 18 ∨ op = 19 ∨ op = 20 ∨ op = 21 ∨ op = 22 ∨ op = 23 ∨ op = 24 ∨ op = 25 ∨ op = 26 ∨ op = 27 := by omega
  rcases this with rfl | rfl | rfl | rfl | rfl | rfl | rfl | rfl | rfl | rfl | rfl <;> cases b <;> decide +kernel
theorem itoa_lit (k : Nat) (h : k < 10) : itoa (k : Int) = [UInt8.ofNat (48 + k)] := by rw [itoa_nonneg, decDigits_one h]
theorem size_eq {i : IV} (h : sizeR i = true) : i.size = 1 ∨ i.size = 2 ∨ i.size = 4 ∨ i.size = 8 := by
  unfold sizeR at h
  simp only [Bool.or_eq_true, decide_eq_true_eq] at h
  omega
theorem way_load {n : Int} (h : n = 1 ∨ n = 2 ∨ n = 4 ∨ n = 8) : wayP (loadW ++ itoa n) = some ({ iv0 14 with size := n }, .load) := by
  rcases h with rfl | rfl | rfl | rfl
  · rw [show (1 : Int) = ((1 : Nat) : Int) from rfl, itoa_lit 1 (by decide)]; decide +kernel
  · rw [show (2 : Int) = ((2 : Nat) : Int) from rfl, itoa_lit 2 (by decide)]; decide +kernel
  · rw [show (4 : Int) = ((4 : Nat) : Int) from rfl, itoa_lit 4 (by decide)]; decide +kernel
  · rw [show (8 : Int) = ((8 : Nat) : Int) from rfl, itoa_lit 8 (by decide)]; decide +kernel
theorem way_put {n : Int} (h : n = 1 ∨ n = 2 ∨ n = 4 ∨ n = 8) : wayP (putW ++ itoa n) = some ({ iv0 15 with size := n }, .put) := by
  rcases h with rfl | rfl | rfl | rfl
  · rw [show (1 : Int) = ((1 : Nat) : Int) from rfl, itoa_lit 1 (by decide)]; decide +kernel
  · rw [show (2 : Int) = ((2 : Nat) : Int) from rfl, itoa_lit 2 (by decide)]; decide +kernel
  · rw [show (4 : Int) = ((4 : Nat) : Int) from rfl, itoa_lit 4 (by decide)]; decide +kernel
  · rw [show (8 : Int) = ((8 : Nat) : Int) from rfl, itoa_lit 8 (by decide)]; decide +kernel
theorem wt_sized {w : Nm} {n : Int} (hw : w.all wordC = true) (h : 0 ≤ n) : Wt (w ++ itoa n) [w ++ itoa n] := by
  refine wt_word ?_ ?_
  · rw [List.all_append, hw, itoa_pos h, dec_word]; rfl
  · rw [itoa_pos h]; intro e; exact dec_ne _ (List.append_eq_nil_iff.1 e).2
theorem regP_other {s : Nm} (h : s.head? ≠ some 114) : regP s = none := by
  unfold regP
  rw [Option.map_eq_none_iff, List.idxOf?_eq_none_iff]
  intro hm
  have : ∀ x ∈ regNs, x.head? = some 114 := by decide
  exact h (this s hm)
theorem regP_reg {n : Int} (h1 : 0 ≤ n) (h2 : n ≤ 10) : regP (regN n) = some n := by
  have : n = 0 ∨ n = 1 ∨ n = 2 ∨ n = 3 ∨ n = 4 ∨ n = 5 ∨ n = 6 ∨ n = 7 ∨ n = 8 ∨ n = 9 ∨ n = 10 := by omega
  unfold regN
  rw [itoa_pos h1]
  rcases this with rfl | rfl | rfl | rfl | rfl | rfl | rfl | rfl | rfl | rfl | rfl
  all_goals (first | rw [decDigits_one (by decide)] | rw [decDigits_two (by decide) (by decide)])
  all_goals decide +kernel
theorem dec_head_dig (u : Nat) : ∀ c, (decDigits u).head? = some c → 48 ≤ c.toNat ∧ c.toNat ≤ 57 := by
  intro c hc
  exact (digC_iff c).1 (dec_dig u c (List.mem_of_mem_head? hc))
theorem dec_not {u : Nat} {c : UInt8} (h : ¬ (48 ≤ c.toNat ∧ c.toNat ≤ 57)) (t : Nm) : decDigits u ≠ c :: t := by
  intro e
  exact h (dec_head_dig u c (by rw [e]; rfl))
theorem regP_dec (u : Nat) : regP (decDigits u) = none := regP_other fun e => absurd (dec_head_dig u 114 e) (by decide)
theorem sign_back {n : Int} (h : inI n (-2147483648) 2147483647 = true) (r : List Nm) : signT (signL n ++ r) = some (n, r) := by
  have h := inI_iff.1 h
  unfold signL
  split
  · next hn =>
    simp only [List.cons_append, List.nil_append, signT, numT, numP_dec (show n.natAbs < 10000000000 by omega)]
    simp
    omega
  · next hn =>
    simp only [List.cons_append, List.nil_append, signT, numT, numP_dec (show n.natAbs < 10000000000 by omega)]
    simp
    omega
theorem far_in {i : IV} (h : farR i = true) : inI i.off (-2147483648) 2147483647 = true := by
  have := inI_iff.1 h
  exact inI_iff.2 (by omega)
theorem sec_back {i j : IV} (h : secR i = true) (hj : j.useImm = false ∧ j.imm = 0 ∧ j.src = 0) (r : List Nm) : secT j (lastL i ++ r) = some ({ j with src := i.src, useImm := i.useImm, imm := i.imm }, r) := by
  unfold secR at h
  unfold lastL
  obtain ⟨j1, j2, j3⟩ := hj
  cases hu : i.useImm with
  | true =>
    rw [hu] at h
    simp only [if_true, Bool.and_eq_true, decide_eq_true_eq] at h ⊢
    obtain ⟨h1, h2⟩ := h
    have h2 := inI_iff.1 h2
    by_cases hn : i.imm < 0
    · simp only [hn, if_true, List.cons_append, List.nil_append, secT, numT]
      rw [regP_other (by decide)]
      simp only
      rw [numP_dec (by omega)]
      simp [h1, j3]
      omega
    · simp only [hn, if_false, List.cons_append, List.nil_append, secT]
      rw [regP_dec]
      simp only
      rw [if_neg (fun e => dec_not (c := 45) (by decide) [] e), numP_dec (by omega)]
      simp [h1, j3]
      omega
  | false =>
    rw [hu] at h
    simp only [Bool.false_eq_true, if_false, Bool.and_eq_true, decide_eq_true_eq] at h ⊢
    obtain ⟨h1, h2⟩ := h
    have h1 := inI_iff.1 h1
    simp only [List.cons_append, List.nil_append, secT, regP_reg h1.1 h1.2]
    simp [h2, j1, j2]
theorem must_back (x : Nm) (r : List Nm) : mustP x (x :: r) = some r := by simp [mustP]
theorem regT_back {n : Int} (h : inI n 0 10 = true) (r : List Nm) : regT (regN n :: r) = some (n, r) := by
  have := inI_iff.1 h
  simp [regT, regP_reg this.1 this.2]
theorem cell_back {n off : Int} (h : inI n 0 10 = true) (h2 : inI off (-2147483648) 2147483647 = true) (r : List Nm) : cellT (cellL n off ++ r) = some (n, off, r) := by
  unfold cellT cellL
  simp only [List.cons_append, must_back, Option.bind_some, regT_back h, List.append_assoc, sign_back h2, List.nil_append, Option.map_some]
theorem sign_head (n : Int) : ∃ c t, signL n = [c] :: t ∧ (c = 45 ∨ c = 43) := by
  unfold signL
  split
  · exact ⟨45, _, rfl, .inl rfl⟩
  · exact ⟨43, _, rfl, .inr rfl⟩
theorem to_back {i : IV} {off : Int} (h2 : inI off (-2147483648) 2147483647 = true) (r : List Nm) : toT i (signL off ++ r) = some ({ i with off := off }, [], r) := by
  have hs := sign_back h2 r
  obtain ⟨c, t, e, hc⟩ := sign_head off
  rw [e] at hs ⊢
  simp only [List.cons_append] at hs ⊢
  have hl : labelP [c] = false := by rcases hc with rfl | rfl <;> decide
  simp only [toT, hl, hs]
  rfl
theorem in9 {n : Int} (h : inI n 0 9 = true) : inI n 0 10 = true := by
  have := inI_iff.1 h
  exact inI_iff.2 (by omega)
theorem alu_back {i j : IV} (hd : inI i.dst 0 10 = true) (h : secR i = true) (hj : j.useImm = false ∧ j.imm = 0 ∧ j.src = 0) (r : List Nm) : aluT j (regN i.dst :: [44] :: (lastL i ++ r)) = some ({ j with dst := i.dst, src := i.src, useImm := i.useImm, imm := i.imm }, r) := by
  unfold aluT
  simp only [regT_back hd, Option.bind_some, must_back]
  exact sec_back (j := { j with dst := i.dst }) h hj r
theorem sec_src {i : IV} (h : secR i = true) : i.useImm = false → 0 ≤ i.src := by
  intro hu
  unfold secR at h
  rw [hu] at h
  simp only [Bool.false_eq_true, if_false, Bool.and_eq_true] at h
  exact (inI_iff.1 h.1).1
theorem toks_show {i : IV} (h : rightP i = true) : Wt (showI i) (tokI i) := by
  unfold rightP at h
  unfold showI tokI
  split at h
  · next h1 =>
    simp only [Bool.and_eq_true, decide_eq_true_eq] at h
    obtain ⟨⟨⟨hd, hs⟩, ho⟩, hz⟩ := h
    have hd := inI_iff.1 hd
    simp only [show i.op ≠ 28 by omega, show i.op ≠ 16 by omega, show i.op ≠ 14 by omega, show i.op ≠ 15 by omega, show i.op ≠ 13 by omega, show ¬ 17 ≤ i.op by omega, if_false, List.append_nil]
    exact wt_wt (wt_first (.inl (by omega))) (wt_blank (wt_wt (wt_reg hd.1) (wt_sign (by decide) (wt_blank (wt_last (sec_src hs)))) (nw_cons (by decide)) (by simp))) (nw_cons (by decide)) (by simp)
  · split at h
    · next h0 h1 =>
      simp only [Bool.and_eq_true, decide_eq_true_eq] at h
      have hd := inI_iff.1 h.1
      simp only [show i.op ≠ 28 by omega, show i.op ≠ 16 by omega, show i.op ≠ 14 by omega, show i.op ≠ 15 by omega, h1, if_false, if_true]
      exact wt_wt (wt_first (.inl (by omega))) (wt_blank (wt_reg hd.1)) (nw_cons (by decide)) (by simp)
    · split at h
      · next h0 h00 h1 =>
        simp only [Bool.and_eq_true, decide_eq_true_eq] at h
        obtain ⟨⟨⟨⟨hd, hs⟩, hf⟩, hz⟩, he⟩ := h
        have hd := inI_iff.1 hd
        have hs := inI_iff.1 hs
        have hz := size_eq hz
        simp only [show i.op ≠ 28 by omega, show i.op ≠ 16 by omega, h1, if_false, if_true]
        have := wt_wt (wt_sized (w := loadW) (by decide) (n := i.size) (by omega)) (wt_blank (wt_wt (wt_reg hd.1) (wt_sign (c := 44) (by decide) (wt_blank (wt_cell (off := i.off) hs.1).wt)) (nw_cons (by decide)) (by simp))) (nw_cons (by decide)) (by simp)
        simpa using this
      · split at h
        · next h0 h00 h000 h1 =>
          simp only [Bool.and_eq_true, decide_eq_true_eq, Bool.not_eq_true'] at h
          obtain ⟨⟨⟨⟨hd, hf⟩, hz⟩, hs⟩, he⟩ := h
          have hd := inI_iff.1 hd
          have hz := size_eq hz
          simp only [show i.op ≠ 28 by omega, show i.op ≠ 16 by omega, show i.op ≠ 14 by omega, h1, if_false, if_true]
          have := wt_wt (wt_sized (w := putW) (by decide) (n := i.size) (by omega)) (wt_blank (zt_wt (wt_cell (off := i.off) hd.1) (wt_sign (c := 44) (by decide) (wt_blank (wt_last (sec_src hs)))))) (nw_cons (by decide)) (by simp)
          simpa using this
        · split at h
          · next h0 h00 h000 h0000 h1 =>
            simp only [show i.op ≠ 28 by omega, h1, if_false, if_true]
            exact wt_wt (wt_word (w := jumpW) (by decide) (by decide)) (wt_blank (wt_apart (.inl rfl))) (nw_cons (by decide)) (by simp)
          · split at h
            · next h0 h00 h000 h0000 h5 h1 =>
              simp only [Bool.and_eq_true, decide_eq_true_eq] at h
              obtain ⟨⟨⟨hd, hf⟩, hs⟩, hz⟩ := h
              have hd := inI_iff.1 hd
              simp only [show i.op ≠ 28 by omega, show i.op ≠ 16 by omega, show i.op ≠ 14 by omega, show i.op ≠ 15 by omega, show i.op ≠ 13 by omega, h1.1, if_false, if_true]
              have := wt_wt (wt_first (i := i) (.inr (by omega))) (wt_blank (wt_wt (wt_reg hd.1) (wt_sign (c := 44) (by decide) (wt_blank (wt_wt (wt_last (sec_src hs)) (wt_sign (c := 44) (by decide) (wt_blank (wt_apart (n := i.off) (.inl rfl)))) (nw_cons (by decide)) (by simp)))) (nw_cons (by decide)) (by simp))) (nw_cons (by decide)) (by simp)
              simpa using this
            · have h := of_decide_eq_true h
              rw [h]
              exact wt_word (w := exitW) (by decide) (by decide)
theorem inst_show {i : IV} (h : rightP i = true) : instP (tokI i) = some (i, []) := by
  unfold rightP at h
  unfold tokI instP
  split at h
  · next h1 =>
    simp only [Bool.and_eq_true, decide_eq_true_eq] at h
    obtain ⟨⟨⟨hd, hs⟩, ho⟩, hz⟩ := h
    simp only [show i.op ≠ 28 by omega, show i.op ≠ 16 by omega, show i.op ≠ 14 by omega, show i.op ≠ 15 by omega, show i.op ≠ 13 by omega, show ¬ 17 ≤ i.op by omega, if_false]
    unfold firstS
    rw [way_alu i.narrow h1.1 h1.2]
    simp only [restT]
    rw [alu_back (in9 hd) hs ⟨rfl, rfl, rfl⟩ []]
    simp only [Option.map_some]
    cases i
    simp_all [iv0]
  · split at h
    · next h0 h1 =>
      simp only [Bool.and_eq_true, decide_eq_true_eq] at h
      simp only [h1, Int.reduceEq, if_false, if_true]
      unfold firstS
      rw [h1, way_neg]
      simp only [restT]
      rw [regT_back (in9 h.1)]
      simp only [Option.map_some]
      rw [← h.2]
    · split at h
      · next h0 h00 h1 =>
        simp only [Bool.and_eq_true, decide_eq_true_eq] at h
        obtain ⟨⟨⟨⟨hd, hs⟩, hf⟩, hz⟩, he⟩ := h
        simp only [h1, Int.reduceEq, if_false, if_true]
        rw [way_load (size_eq hz)]
        have hc := cell_back hs (far_in hf) []
        rw [List.append_nil] at hc
        simp only [restT, regT_back (in9 hd), Option.bind_some, must_back, hc, Option.map_some]
        rw [← he]
      · split at h
        · next h0 h00 h000 h1 =>
          simp only [Bool.and_eq_true, decide_eq_true_eq, Bool.not_eq_true'] at h
          obtain ⟨⟨⟨⟨hd, hf⟩, hz⟩, hs⟩, he⟩ := h
          simp only [h1, Int.reduceEq, if_false, if_true]
          rw [way_put (size_eq hz)]
          have hl := sec_back (j := { iv0 15 with size := i.size, dst := i.dst, off := i.off }) hs ⟨rfl, rfl, rfl⟩ []
          rw [List.append_nil] at hl
          simp only [restT, cell_back hd (far_in hf), Option.bind_some, must_back, hl, Option.map_some]
          cases i
          simp_all [iv0]
        · split at h
          · next h0 h00 h000 h0000 h1 =>
            simp only [Bool.and_eq_true, decide_eq_true_eq] at h
            simp only [h1, Int.reduceEq, if_false, if_true]
            rw [show wayP jumpW = some (iv0 16, .far) by decide +kernel]
            have ht := to_back (i := iv0 16) (far_in h.1) []
            rw [List.append_nil] at ht
            simp only [restT, ht]
            rw [← h.2]
          · split at h
            · next h0 h00 h000 h0000 h5 h1 =>
              simp only [Bool.and_eq_true, decide_eq_true_eq] at h
              obtain ⟨⟨⟨hd, hf⟩, hs⟩, hz⟩ := h
              simp only [show i.op ≠ 28 by omega, show i.op ≠ 16 by omega, show i.op ≠ 14 by omega, show i.op ≠ 15 by omega, show i.op ≠ 13 by omega, h1.1, if_false, if_true]
              unfold firstS
              rw [way_ask i.narrow h1.1 h1.2]
              simp only [restT]
              rw [alu_back hd hs ⟨rfl, rfl, rfl⟩ _]
              have ht := to_back (i := { iv0 i.op with narrow := i.narrow, dst := i.dst, src := i.src, useImm := i.useImm, imm := i.imm }) (far_in hf) []
              rw [List.append_nil] at ht
              simp only [Option.bind_some, must_back, ht]
              cases i
              simp_all [iv0]
            · have h := of_decide_eq_true h
              rw [h]
              decide +kernel
end Go.Proofs.YtjebjninlejoeaaGreatDoor
namespace Go.Proofs.YtjebjninlejoeaaGreatDoor
open Go.Lib
set_option linter.unusedVariables false
set_option linter.unusedSimpArgs false

def okC (c : UInt8) : Bool := wordC c || signC c || decide (c = 32)
theorem ok_word {s : Nm} (h : s.all wordC = true) : s.all okC = true := by
  rw [List.all_eq_true] at h ⊢
  intro c hc
  simp [okC, h c hc]
theorem okC_ne {c : UInt8} (h : okC c = true) : c ≠ 10 := by rintro rfl; exact absurd h (by decide)
theorem ok_dec (u : Nat) : (decDigits u).all okC = true := ok_word (dec_word u)
theorem ok_itoa (n : Int) : (itoa n).all okC = true := by
  unfold itoa
  split
  · simp only [List.all_cons, ok_dec, Bool.and_true]; decide
  · exact ok_dec _
theorem ok_reg (n : Int) : (regN n).all okC = true := by
  unfold regN
  simp only [List.all_cons, ok_itoa, Bool.and_true]; decide
theorem ok_apart (n : Int) {b : Nm} (hb : b = [] ∨ b = [32]) : (apartS n b).all okC = true := by
  unfold apartS
  rcases hb with rfl | rfl <;> split <;> simp only [List.all_cons, List.all_append, ok_itoa, Bool.and_true, List.nil_append, List.all_nil] <;> decide
theorem ok_last (i : IV) : (lastS i).all okC = true := by
  unfold lastS
  split
  · exact ok_itoa _
  · exact ok_reg _
theorem ok_cell (n off : Int) : (cellS n off).all okC = true := by
  unfold cellS
  simp only [List.all_cons, List.all_append, ok_reg, ok_apart off (.inr rfl), Bool.and_true, Bool.true_and, List.all_nil]
  decide
theorem ok_base (op : Int) : (baseS op).all okC = true := by
  have h1 : ∀ s ∈ ops, s.all okC = true := by decide
  have h2 : ∀ s ∈ qus, s.all okC = true := by decide
  unfold baseS
  split
  · rw [List.getD_eq_getElem?_getD]
    cases h : qus[(op - 17).toNat]? with
    | none => rfl
    | some s => exact h2 s (List.mem_of_getElem? h)
  · rw [List.getD_eq_getElem?_getD]
    cases h : ops[(op - 1).toNat]? with
    | none => rfl
    | some s => exact h1 s (List.mem_of_getElem? h)
theorem ok_first (i : IV) : (firstS i).all okC = true := by
  unfold firstS
  rw [List.all_append, ok_base]
  cases i.narrow <;> decide
theorem ok_show (i : IV) : (showI i).all okC = true := by
  have e1 : okC 32 = true := by decide
  have e2 : okC 44 = true := by decide
  have w1 : jumpW.all okC = true := by decide
  have w2 : loadW.all okC = true := by decide
  have w3 : putW.all okC = true := by decide
  have w4 : exitW.all okC = true := by decide
  unfold showI
  split
  · exact w4
  · split
    · simp only [List.all_cons, List.all_append, e1, w1, ok_apart i.off (.inl rfl), Bool.and_true]
    · split
      · simp only [List.all_cons, List.all_append, e1, e2, w2, ok_itoa, ok_reg, ok_cell, Bool.and_true]
      · split
        · simp only [List.all_cons, List.all_append, e1, e2, w3, ok_itoa, ok_last, ok_cell, Bool.and_true]
        · split
          · simp only [List.all_cons, List.all_append, e1, ok_first, ok_reg, Bool.and_true]
          · split
            · simp only [List.all_cons, List.all_append, e1, e2, ok_first, ok_reg, ok_last, ok_apart i.off (.inl rfl), Bool.and_true]
            · simp only [List.all_cons, List.all_append, e1, e2, ok_first, ok_reg, ok_last, List.all_nil, Bool.and_true]
theorem linesA_app : ∀ (s cur r : Nm), (∀ c ∈ s, c ≠ 10) → linesA cur (s ++ 10 :: r) = (cur ++ s) :: linesA [] r
  | [], cur, r, _ => by simp [linesA]
  | c :: s, cur, r, h => by
    rw [List.cons_append, linesA, if_neg (h c (List.mem_cons_self ..)), linesA_app s _ r (fun d hd => h d (List.mem_cons_of_mem _ hd))]
    simp
theorem show_ne (i : IV) : ∀ c ∈ showI i, c ≠ 10 := fun c hc => okC_ne (List.all_eq_true.1 (ok_show i) c hc)
theorem lines_show : ∀ l : List IV, linesP (showP l) = l.map showI ++ [[]]
  | [] => rfl
  | i :: l => by
    have := lines_show l
    unfold linesP showP at *
    rw [List.flatMap_cons, List.append_assoc, List.cons_append, List.nil_append, linesA_app _ _ _ (show_ne i), this]
    rfl
theorem regP_colon : regP [58] = none := regP_other (by decide)
theorem mark_inst {t : List Nm} {a : Nm} (h : markT t = some a) : instP t = none := by
  unfold markT at h
  split at h
  · next x y =>
    split at h
    · next hy =>
      obtain ⟨rfl, _⟩ := hy
      unfold instP
      split
      · rfl
      · next s t e =>
        injection e with e1 e2
        subst e1 e2
        split
        · rfl
        · next i k hk =>
          have : ∀ k, (∃ q : IV × Nm × List Nm, restT i [[58]] k = some (q.1, q.2.1, q.2.2) ∧ q.2.2 = []) → False := by
            rintro k ⟨q, hq, hq2⟩
            cases k <;> simp [restT, aluT, regT, regP_colon, cellT, mustP, toT, labelP, signT] at hq
            rw [← hq.2.2] at hq2
            cases hq2
          split
          · next i' to hr => exact absurd ⟨(i', to, []), hr, rfl⟩ (this k)
          · rfl
    · cases h
  · cases h
theorem step_show {st : PS} {i : IV} (n : Nat) (h : rightP i = true) (hl : st.out.length < 4096) : stepP st n (showI i) = .ok { st with out := st.out ++ [i] } := by
  have h1 := (toks_show h).toks
  have h2 := inst_show h
  have h3 : markT (tokI i) = none := by
    cases hm : markT (tokI i) with
    | none => rfl
    | some a => rw [mark_inst hm] at h2; cases h2
  unfold stepP
  rw [h1]
  cases ht : tokI i with
  | nil => rw [ht] at h2; cases h2
  | cons a b =>
    rw [ht] at h2 h3
    simp only [h3, h2, h, if_true]
    rw [if_neg (by omega)]
theorem run_show : ∀ (l : List IV) (pre : List IV) (n : Nat), (∀ i ∈ l, rightP i = true) → pre.length + l.length ≤ 4096 → runP ⟨pre, [], []⟩ n (l.map showI ++ [[]]) = .ok ⟨pre ++ l, [], []⟩
  | [], pre, n, _, _ => by simp [runP, stepP, toks, toksA, flush]
  | i :: l, pre, n, h, hl => by
    rw [List.map_cons, List.cons_append, runP, step_show n (h i (List.mem_cons_self ..)) (by simp at hl; simp; omega)]
    simp only
    rw [run_show l (pre ++ [i]) (n + 1) (fun j hj => h j (List.mem_cons_of_mem _ hj)) (by simp at hl ⊢; omega)]
    simp
theorem itoa_len {n : Int} (h : -10000000000 < n ∧ n < 10000000000) : (itoa n).length ≤ 11 := by
  unfold itoa
  split
  · have := dec_len10.2 (show n.natAbs < 10000000000 by omega)
    simp; omega
  · have := dec_len10.2 (show n.toNat < 10000000000 by omega)
    omega
theorem reg_len {n : Int} (h : inI n 0 10 = true) : (regN n).length ≤ 12 := by
  have := inI_iff.1 h
  have := itoa_len (n := n) (by omega)
  unfold regN
  simp; omega
theorem apart_len {n : Int} (h : inI n (-32768) 32767 = true) (b : Nm) : (apartS n b).length ≤ 12 + b.length := by
  have := inI_iff.1 h
  have h1 := itoa_len (n := n) (by omega)
  have h2 := itoa_len (n := -n) (by omega)
  unfold apartS
  split <;> simp <;> omega
theorem last_len {i : IV} (h : secR i = true) : (lastS i).length ≤ 12 := by
  unfold secR at h
  unfold lastS
  cases hu : i.useImm with
  | true =>
    rw [hu] at h
    simp only [if_true, Bool.and_eq_true] at h ⊢
    have := inI_iff.1 h.2
    have := itoa_len (n := i.imm) (by omega)
    omega
  | false =>
    rw [hu] at h
    simp only [Bool.false_eq_true, if_false, Bool.and_eq_true] at h ⊢
    exact reg_len h.1
theorem cell_len {n off : Int} (h : inI n 0 10 = true) (h2 : inI off (-32768) 32767 = true) : (cellS n off).length ≤ 28 := by
  have a := reg_len h
  have b := apart_len h2 [32]
  unfold cellS
  simp at b ⊢; omega
theorem first_len (i : IV) : (firstS i).length ≤ 6 := by
  have h1 : ∀ s ∈ ops, s.length ≤ 4 := by decide
  have h2 : ∀ s ∈ qus, s.length ≤ 4 := by decide
  have hb : (baseS i.op).length ≤ 4 := by
    unfold baseS
    split
    · rw [List.getD_eq_getElem?_getD]
      cases h : qus[(i.op - 17).toNat]? with
      | none => simp
      | some s => exact h2 s (List.mem_of_getElem? h)
    · rw [List.getD_eq_getElem?_getD]
      cases h : ops[(i.op - 1).toNat]? with
      | none => simp
      | some s => exact h1 s (List.mem_of_getElem? h)
  unfold firstS
  rw [List.length_append]
  cases i.narrow <;> simp [n32] <;> omega
theorem show_len {i : IV} (h : rightP i = true) : (showI i).length ≤ 60 := by
  unfold rightP at h
  unfold showI
  have hf1 := first_len i
  split at h
  · next h1 =>
    simp only [Bool.and_eq_true, decide_eq_true_eq] at h
    obtain ⟨⟨⟨hd, hs⟩, ho⟩, hz⟩ := h
    have a := reg_len (in9 hd)
    have b := last_len hs
    simp only [show i.op ≠ 28 by omega, show i.op ≠ 16 by omega, show i.op ≠ 14 by omega, show i.op ≠ 15 by omega, show i.op ≠ 13 by omega, show ¬ 17 ≤ i.op by omega, if_false, List.append_nil]
    simp; omega
  · split at h
    · next h0 h1 =>
      simp only [Bool.and_eq_true, decide_eq_true_eq] at h
      have a := reg_len (in9 h.1)
      simp only [h1, Int.reduceEq, if_false, if_true]
      simp; omega
    · split at h
      · next h0 h00 h1 =>
        simp only [Bool.and_eq_true, decide_eq_true_eq] at h
        obtain ⟨⟨⟨⟨hd, hs⟩, hf⟩, hz⟩, he⟩ := h
        have a := reg_len (in9 hd)
        have b := cell_len hs hf
        have hz := size_eq hz
        have c := itoa_len (n := i.size) (by omega)
        simp only [h1, Int.reduceEq, if_false, if_true]
        simp [loadW]; omega
      · split at h
        · next h0 h00 h000 h1 =>
          simp only [Bool.and_eq_true, decide_eq_true_eq, Bool.not_eq_true'] at h
          obtain ⟨⟨⟨⟨hd, hf⟩, hz⟩, hs⟩, he⟩ := h
          have a := last_len hs
          have b := cell_len hd hf
          have hz := size_eq hz
          have c := itoa_len (n := i.size) (by omega)
          simp only [h1, Int.reduceEq, if_false, if_true]
          simp [putW]; omega
        · split at h
          · next h0 h00 h000 h0000 h1 =>
            simp only [Bool.and_eq_true, decide_eq_true_eq] at h
            have a := apart_len h.1 []
            simp only [h1, Int.reduceEq, if_false, if_true]
            simp [jumpW] at a ⊢; omega
          · split at h
            · next h0 h00 h000 h0000 h5 h1 =>
              simp only [Bool.and_eq_true, decide_eq_true_eq] at h
              obtain ⟨⟨⟨hd, hf⟩, hs⟩, hz⟩ := h
              have a := reg_len hd
              have b := last_len hs
              have c := apart_len hf []
              simp only [show i.op ≠ 28 by omega, show i.op ≠ 16 by omega, show i.op ≠ 14 by omega, show i.op ≠ 15 by omega, show i.op ≠ 13 by omega, h1.1, if_false, if_true]
              simp at c ⊢; omega
            · have h := of_decide_eq_true h
              rw [h]
              simp [iv0, exitW]
theorem showP_len : ∀ l : List IV, (∀ i ∈ l, rightP i = true) → (showP l).length ≤ 61 * l.length
  | [], _ => by simp [showP]
  | i :: l, h => by
    have h1 := show_len (h i (List.mem_cons_self ..))
    have h2 := showP_len l fun j hj => h j (List.mem_cons_of_mem _ hj)
    unfold showP at *
    rw [List.flatMap_cons]
    simp only [List.length_append, List.length_cons, List.length_nil]
    omega
/-- What is shown is parsed as it was. -/
theorem parse_show {l : List IV} (h : ∀ i ∈ l, rightP i = true) (hl : l.length ≤ 4096) : parseP (showP l) = .ok l := by
  have h1 := showP_len l h
  unfold parseP
  rw [if_neg (by omega), lines_show]
  have := run_show l [] 1 h (by simpa using hl)
  unfold ps0
  rw [this]
  rfl
theorem count_show : ∀ l : List IV, (showP l).count 10 = l.length
  | [] => rfl
  | i :: l => by
    have h0 : (showI i).count 10 = 0 := List.count_eq_zero.2 fun hc => show_ne i 10 hc rfl
    have := count_show l
    unfold showP at *
    rw [List.flatMap_cons, List.count_append, List.count_append, this, h0]
    simp; omega
end Go.Proofs.YtjebjninlejoeaaGreatDoor
namespace Go.Proofs.YtjebjninlejoeaaGreatDoor
open Go.Lib
set_option linter.unusedVariables false
set_option linter.unusedSimpArgs false

/-- Of a jump's kind. -/
def JmpOp (i : IV) : Prop := i.op = 16 ∨ (17 ≤ i.op ∧ i.op ≤ 27)
theorem must_some {x : Nm} {l r : List Nm} (h : mustP x l = some r) : l = x :: r := by
  cases l with
  | nil => cases h
  | cons s t =>
    simp only [mustP] at h
    split at h
    · next e => injection h with h; rw [e, h]
    · cases h
theorem sec_op {i i' : IV} {l r : List Nm} (h : secT i l = some (i', r)) : i'.op = i.op ∧ i'.narrow = i.narrow ∧ i'.size = i.size := by
  cases l with
  | nil => cases h
  | cons s t =>
    simp only [secT] at h
    split at h
    · injection h with h; injection h with h h2; rw [← h]; exact ⟨rfl, rfl, rfl⟩
    · split at h
      · obtain ⟨p, _, hp⟩ := Option.map_eq_some_iff.1 h
        injection hp with h h2; rw [← h]; exact ⟨rfl, rfl, rfl⟩
      · obtain ⟨p, _, hp⟩ := Option.map_eq_some_iff.1 h
        injection hp with h h2; rw [← h]; exact ⟨rfl, rfl, rfl⟩
theorem to_op {i i' : IV} {to : Nm} {l r : List Nm} (h : toT i l = some (i', to, r)) : i'.op = i.op := by
  cases l with
  | nil => cases h
  | cons s t =>
    simp only [toT] at h
    split at h
    · injection h with h; injection h with h h2; rw [← h]
    · obtain ⟨p, _, hp⟩ := Option.map_eq_some_iff.1 h
      injection hp with h h2; rw [← h]
theorem alu_op {i i' : IV} {l r : List Nm} (h : aluT i l = some (i', r)) : i'.op = i.op := by
  unfold aluT at h
  obtain ⟨p, _, h⟩ := Option.bind_eq_some_iff.1 h
  obtain ⟨q, _, h⟩ := Option.bind_eq_some_iff.1 h
  exact (sec_op h).1
theorem way_kind {s : Nm} {i : IV} {k : Kind} (h : wayP s = some (i, k)) : (k = .far → i.op = 16) ∧ (k = .ask → 17 ≤ i.op ∧ i.op ≤ 27) := by
  have hw : ∀ p ∈ ways, (p.2.2 = .far → p.2.1.op = 16) ∧ (p.2.2 = .ask → 17 ≤ p.2.1.op ∧ p.2.1.op ≤ 27) := by decide +kernel
  unfold wayP at h
  obtain ⟨p, hp, e⟩ := Option.map_eq_some_iff.1 h
  have := hw p (List.mem_of_find?_eq_some hp)
  rw [e] at this
  exact this
theorem inst_to {t : List Nm} {i : IV} {to : Nm} (h : instP t = some (i, to)) (h0 : to ≠ []) : JmpOp i := by
  cases t with
  | nil => cases h
  | cons s t =>
    simp only [instP] at h
    split at h
    · cases h
    · next i0 k hk =>
      have hw := way_kind hk
      split at h
      · next i' to' hr =>
        injection h with h
        injection h with h1 h2
        subst h1 h2
        cases k with
        | alu => simp only [restT] at hr; obtain ⟨p, _, e⟩ := Option.map_eq_some_iff.1 hr; injection e with _ e; injection e with e _; exact absurd e.symm h0
        | neg => simp only [restT] at hr; obtain ⟨p, _, e⟩ := Option.map_eq_some_iff.1 hr; injection e with _ e; injection e with e _; exact absurd e.symm h0
        | load => simp only [restT] at hr; obtain ⟨p, _, hr⟩ := Option.bind_eq_some_iff.1 hr; obtain ⟨q, _, hr⟩ := Option.bind_eq_some_iff.1 hr; obtain ⟨x, _, e⟩ := Option.map_eq_some_iff.1 hr; injection e with _ e; injection e with e _; exact absurd e.symm h0
        | put => simp only [restT] at hr; obtain ⟨p, _, hr⟩ := Option.bind_eq_some_iff.1 hr; obtain ⟨q, _, hr⟩ := Option.bind_eq_some_iff.1 hr; obtain ⟨x, _, e⟩ := Option.map_eq_some_iff.1 hr; injection e with _ e; injection e with e _; exact absurd e.symm h0
        | exit => simp only [restT] at hr; injection hr with e; injection e with _ e; injection e with e _; exact absurd e.symm h0
        | far => simp only [restT] at hr; exact .inl ((to_op hr).trans (hw.1 rfl))
        | ask =>
          simp only [restT] at hr
          obtain ⟨p, hp, hr⟩ := Option.bind_eq_some_iff.1 hr
          obtain ⟨q, _, hr⟩ := Option.bind_eq_some_iff.1 hr
          have e : i'.op = i0.op := (to_op hr).trans (alu_op (i' := p.1) (r := p.2) hp)
          exact .inr (by rw [e]; exact hw.2 rfl)
      · cases h
/-- What holds of what has been read. -/
structure PI (st : PS) : Prop where
  right : ∀ i ∈ st.out, rightP i = true
  len : st.out.length ≤ 4096
  jmp : ∀ j ∈ st.jumps, ∃ i, st.out[j.at_]? = some i ∧ JmpOp i
theorem step_inv {st st' : PS} {n : Nat} {s : List UInt8} (h : PI st) (e : stepP st n s = .ok st') : PI st' ∧ (∀ j ∈ st'.jumps, j ∈ st.jumps ∨ j.line = n) := by
  unfold stepP at e
  split at e
  · cases e
  · injection e with e; subst e; exact ⟨h, fun j hj => .inl hj⟩
  · split at e
    · split at e
      · cases e
      · injection e with e; subst e; exact ⟨⟨h.right, h.len, h.jmp⟩, fun j hj => .inl hj⟩
    · split at e
      · cases e
      · next i to hi =>
        split at e
        · next hr =>
          split at e
          · cases e
          · next hl =>
            injection e with e
            subst e
            have old : ∀ j ∈ st.jumps, ∃ i', (st.out ++ [i])[j.at_]? = some i' ∧ JmpOp i' := by
              intro j hj
              obtain ⟨i', h1, h2⟩ := h.jmp j hj
              exact ⟨i', by rw [List.getElem?_append_left (List.getElem?_eq_some_iff.1 h1).1]; exact h1, h2⟩
            refine ⟨⟨fun j hj => ?_, ?_, ?_⟩, ?_⟩
            · rcases List.mem_append.1 hj with hj | hj
              · exact h.right j hj
              · simp at hj; rw [hj]; exact hr
            · have := h.len
              simp; omega
            · simp only
              split
              · exact old
              · next h0 =>
                intro j hj
                rcases List.mem_append.1 hj with hj | hj
                · exact old j hj
                · simp at hj
                  subst hj
                  exact ⟨i, by simp, inst_to hi h0⟩
            · simp only
              intro j hj
              split at hj
              · exact .inl hj
              · rcases List.mem_append.1 hj with hj | hj
                · exact .inl hj
                · simp at hj; subst hj; exact .inr rfl
        · cases e
theorem run_inv : ∀ (ss : List (List UInt8)) (st st' : PS) (n : Nat), PI st → runP st n ss = .ok st' → (∀ j ∈ st.jumps, j.line < n) → PI st' ∧ (∀ j ∈ st'.jumps, j.line < n + ss.length)
  | [], st, st', n, h, e, hj => by
    simp only [runP] at e
    injection e with e
    subst e
    exact ⟨h, by simpa using hj⟩
  | s :: ss, st, st', n, h, e, hj => by
    simp only [runP] at e
    split at e
    · cases e
    · next st1 e1 =>
      obtain ⟨h1, h2⟩ := step_inv h e1
      obtain ⟨a, b⟩ := run_inv ss st1 st' (n + 1) h1 e (fun j q => (h2 j q).elim (fun q => Nat.lt_succ_of_lt (hj j q)) (fun q => by omega))
      exact ⟨a, fun j q => by have := b j q; simp; omega⟩
theorem right_off {i : IV} {o : Int} (h : rightP i = true) (hj : JmpOp i) (ho : inI o (-32768) 32767 = true) : rightP { i with off := o } = true := by
  rcases hj with hj | ⟨h1, h2⟩
  · unfold rightP at h ⊢
    simp only [hj, Int.reduceEq, Int.reduceLE, and_false, if_false, if_true, Bool.and_eq_true, decide_eq_true_eq] at h ⊢
    refine ⟨ho, ?_⟩
    obtain ⟨_, h⟩ := h
    cases i
    simp_all [iv0]
  · unfold rightP at h ⊢
    simp only [show ¬ (1 ≤ i.op ∧ i.op ≤ 12) by omega, show i.op ≠ 13 by omega, show i.op ≠ 14 by omega, show i.op ≠ 15 by omega, show i.op ≠ 16 by omega, show (17 ≤ i.op ∧ i.op ≤ 27) from ⟨h1, h2⟩, if_false, and_self, if_true, Bool.and_eq_true, decide_eq_true_eq] at h ⊢
    exact ⟨⟨⟨h.1.1.1, ho⟩, h.1.2⟩, h.2⟩
theorem land_inv {marks : List (Nm × Nat)} : ∀ (js : List Jmp) (out l : List IV), landP marks out js = .ok l → (∀ i ∈ out, rightP i = true) → (∀ j ∈ js, ∃ i, out[j.at_]? = some i ∧ JmpOp i) → (∀ i ∈ l, rightP i = true) ∧ l.length = out.length
  | [], out, l, e, h, _ => by
    simp only [landP] at e
    injection e with e
    subst e
    exact ⟨h, rfl⟩
  | j :: js, out, l, e, h, hj => by
    simp only [landP] at e
    split at e
    · cases e
    · next at_ _ =>
      split at e
      · next ho =>
        obtain ⟨i, hi, hk⟩ := hj j (List.mem_cons_self ..)
        obtain ⟨a, b⟩ := land_inv js _ l e (fun x hx => by
          obtain ⟨k, hk', ex⟩ := List.mem_iff_getElem.1 hx
          rw [List.getElem_modify] at ex
          rw [List.length_modify] at hk'
          split at ex
          · next e1 =>
            subst e1
            have e2 : out[j.at_] = i := by rw [List.getElem?_eq_getElem hk'] at hi; exact Option.some.inj hi
            rw [← ex, e2]
            exact right_off (h i (e2 ▸ List.getElem_mem hk')) hk ho
          · rw [← ex]; exact h _ (List.getElem_mem hk')) (fun q hq => by
          obtain ⟨i2, h1, h2⟩ := hj q (List.mem_cons_of_mem _ hq)
          rw [List.getElem?_modify, h1]
          refine ⟨_, rfl, ?_⟩
          by_cases e1 : j.at_ = q.at_
          · simp only [e1, if_true]; exact h2
          · simp only [e1, if_false]; exact h2)
        exact ⟨a, by rw [b, List.length_modify]⟩
      · cases e
theorem pi0 : PI ps0 := ⟨fun i h => (by cases h), Nat.zero_le _, fun j h => (by cases h)⟩
/-- What is parsed is right, and not too many. -/
theorem parse_right {s : List UInt8} {l : List IV} (h : parseP s = .ok l) : (∀ i ∈ l, rightP i = true) ∧ l.length ≤ 4096 := by
  unfold parseP at h
  split at h
  · cases h
  · split at h
    · cases h
    · next st e =>
      obtain ⟨h1, _⟩ := run_inv _ _ _ _ pi0 e (fun j hj => by cases hj)
      obtain ⟨a, b⟩ := land_inv _ _ _ h h1.right h1.jmp
      exact ⟨a, by rw [b]; exact h1.len⟩
theorem linesA_len : ∀ (s cur : Nm), (linesA cur s).length = s.count 10 + 1
  | [], cur => rfl
  | c :: s, cur => by
    rw [linesA]
    by_cases h : c = 10
    · rw [if_pos h, List.length_cons, linesA_len s, h]; simp
    · rw [if_neg h, linesA_len s, List.count_cons_of_ne (fun e => h e)]
theorem step_err {st : PS} {n k : Nat} {s : List UInt8} {x : Int} (e : stepP st n s = .error (x, k)) : k = n ∧ x ≠ 0 := by
  unfold stepP at e
  split at e
  · injection e with e; injection e with e1 e2; exact ⟨e2.symm, by rw [← e1]; decide⟩
  · cases e
  · split at e
    · split at e
      · injection e with e; injection e with e1 e2; exact ⟨e2.symm, by rw [← e1]; decide⟩
      · cases e
    · split at e
      · injection e with e; injection e with e1 e2; exact ⟨e2.symm, by rw [← e1]; decide⟩
      · split at e
        · split at e
          · injection e with e; injection e with e1 e2; exact ⟨e2.symm, by rw [← e1]; decide⟩
          · cases e
        · injection e with e; injection e with e1 e2; exact ⟨e2.symm, by rw [← e1]; decide⟩
theorem run_err : ∀ (ss : List (List UInt8)) (st : PS) (n k : Nat) (x : Int), runP st n ss = .error (x, k) → k < n + ss.length ∧ x ≠ 0
  | [], st, n, k, x, e => by simp only [runP] at e; cases e
  | s :: ss, st, n, k, x, e => by
    simp only [runP] at e
    split at e
    · next y e1 =>
      injection e with e
      subst e
      obtain ⟨h1, h2⟩ := step_err e1
      exact ⟨by simp; omega, h2⟩
    · next st1 e1 =>
      obtain ⟨h1, h2⟩ := run_err ss st1 (n + 1) k x e
      exact ⟨by simp; omega, h2⟩
theorem land_err {marks : List (Nm × Nat)} {N : Nat} : ∀ (js : List Jmp) (out : List IV) (k : Nat) (x : Int), landP marks out js = .error (x, k) → (∀ j ∈ js, j.line < N) → k < N ∧ x ≠ 0
  | [], out, k, x, e, _ => by simp only [landP] at e; cases e
  | j :: js, out, k, x, e, h => by
    simp only [landP] at e
    split at e
    · injection e with e; injection e with e1 e2; exact ⟨by rw [← e2]; exact h j (List.mem_cons_self ..), by rw [← e1]; decide⟩
    · split at e
      · exact land_err js _ k x e (fun q hq => h q (List.mem_cons_of_mem _ hq))
      · injection e with e; injection e with e1 e2; exact ⟨by rw [← e2]; exact h j (List.mem_cons_self ..), by rw [← e1]; decide⟩
theorem parse_err {s : List UInt8} {x : Int} {k : Nat} (h : parseP s = .error (x, k)) : k ≤ 1 + s.count 10 ∧ x ≠ 0 := by
  unfold parseP at h
  split at h
  · injection h with e; injection e with e1 e2; exact ⟨by omega, by rw [← e1]; decide⟩
  · have hl : (linesP s).length = s.count 10 + 1 := linesA_len s []
    split at h
    · next y e =>
      injection h with h
      subst h
      obtain ⟨h1, h2⟩ := run_err _ _ _ _ _ e
      exact ⟨by omega, h2⟩
    · next st e =>
      obtain ⟨_, h1⟩ := run_inv _ _ _ _ pi0 e (fun j hj => by cases hj)
      obtain ⟨a, b⟩ := land_err _ _ _ _ h h1
      exact ⟨by omega, b⟩
end Go.Proofs.YtjebjninlejoeaaGreatDoor
namespace Go.Proofs.YtjebjninlejoeaaGreatDoor
open Go.Lib
set_option linter.unusedVariables false
set_option linter.unusedSimpArgs false

/-- What a line without labels says; none: a fault, or a label. -/
def lineT : Option (List Nm) → Option (Option IV)
  | none => none
  | some t => if t = [] then some none else if (markT t).isSome then none else match instP t with
    | some (i, to) => if to = [] ∧ rightP i = true then some (some i) else none
    | none => none
def lineR (s : List UInt8) : Option (Option IV) := lineT (toks s)
def outs (ss : List (List UInt8)) : List IV := ss.filterMap fun s => (lineR s).join
theorem toksA_mem : ∀ (s cur : Nm) (l : List Nm) (c : UInt8), toksA cur s = some l → (∃ t ∈ l, c ∈ t) → c ∈ cur ∨ c ∈ s
  | [], cur, l, c, h, ⟨t, ht, hc⟩ => by
    simp only [toksA, flush] at h
    split at h
    · injection h with h; subst h; cases ht
    · simp at h; subst h; simp at ht; subst ht; exact .inl hc
  | d :: s, cur, l, c, h, ⟨t, ht, hc⟩ => by
    have fl : ∀ r : Option (List Nm), flush cur r = some l → (∀ l', r = some l' → (∃ t ∈ l', c ∈ t) → c ∈ d :: s) → c ∈ cur ∨ c ∈ d :: s := by
      intro r hr hk
      unfold flush at hr
      split at hr
      · exact .inr (hk l hr ⟨t, ht, hc⟩)
      · obtain ⟨l', h1, h2⟩ := Option.map_eq_some_iff.1 hr
        subst h2
        rcases List.mem_cons.1 ht with rfl | ht
        · exact .inl hc
        · exact .inr (hk l' h1 ⟨t, ht, hc⟩)
    simp only [toksA] at h
    split at h
    · exact fl _ h (fun l' e ⟨t, ht, hc⟩ => by injection e with e; subst e; cases ht)
    · split at h
      · rcases toksA_mem s _ l c h ⟨t, ht, hc⟩ with q | q
        · rcases List.mem_append.1 q with q | q
          · exact .inl q
          · simp at q; exact .inr (by simp [q])
        · exact .inr (List.mem_cons_of_mem _ q)
      · split at h
        · refine fl _ h fun l' e q => ?_
          rcases toksA_mem s [] l' c e q with q | q
          · cases q
          · exact List.mem_cons_of_mem _ q
        · split at h
          · refine fl _ h fun l' e ⟨t, ht, hc⟩ => ?_
            obtain ⟨l2, h1, h2⟩ := Option.map_eq_some_iff.1 e
            subst h2
            rcases List.mem_cons.1 ht with rfl | ht
            · simp at hc; simp [hc]
            · rcases toksA_mem s [] l2 c h1 ⟨t, ht, hc⟩ with q | q
              · cases q
              · exact List.mem_cons_of_mem _ q
          · cases h
theorem mark_none {s : List UInt8} {t : List Nm} (h : toks s = some t) (h58 : (58 : UInt8) ∉ s) : markT t = none := by
  cases hm : markT t with
  | none => rfl
  | some a =>
    exfalso
    unfold markT at hm
    split at hm
    · next x y =>
      split at hm
      · next hy =>
        rcases toksA_mem s [] _ 58 h ⟨y, by simp, by rw [hy.1]; simp⟩ with q | q
        · cases q
        · exact h58 q
      · cases hm
    · cases hm
theorem step_jumps {st st' : PS} {n : Nat} {s : List UInt8} (e : stepP st n s = .ok st') (h : st'.jumps = []) : st.jumps = [] := by
  unfold stepP at e
  split at e
  · cases e
  · injection e with e; subst e; exact h
  · split at e
    · split at e
      · cases e
      · injection e with e; subst e; exact h
    · split at e
      · cases e
      · split at e
        · split at e
          · cases e
          · injection e with e
            subst e
            simp only at h
            split at h
            · exact h
            · simp at h
        · cases e
theorem run_jumps : ∀ (ss : List (List UInt8)) (st st' : PS) (n : Nat), runP st n ss = .ok st' → st'.jumps = [] → st.jumps = []
  | [], st, st', n, e, h => by simp only [runP] at e; injection e with e; subst e; exact h
  | s :: ss, st, st', n, e, h => by
    simp only [runP] at e
    split at e
    · cases e
    · next st1 e1 => exact step_jumps e1 (run_jumps ss st1 st' _ e h)
theorem step_out {st st' : PS} {n : Nat} {s : List UInt8} (e : stepP st n s = .ok st') (hj : st.jumps = []) (h : st'.jumps = []) (h58 : (58 : UInt8) ∉ s) :
    ∃ r, lineR s = some r ∧ st' = ⟨st.out ++ r.toList, [], st.marks⟩ := by
  unfold stepP at e
  unfold lineR lineT
  split at e
  · cases e
  · next ht =>
    injection e with e
    subst e
    rw [ht]
    exact ⟨none, by simp, by cases st; simp_all⟩
  · next t hne ht =>
    have hm := mark_none ht h58
    rw [hm] at e
    rw [ht]
    try simp only at e
    simp only [hm]
    split at e
    · cases e
    · next i to hi =>
      split at e
      · next hr =>
        split at e
        · cases e
        · injection e with e
          subst e
          simp only at h
          have h0 : to = [] := by
            split at h
            · next q => exact q
            · simp at h
          refine ⟨some i, ?_, ?_⟩
          · rw [if_neg (by intro q; subst q; exact hne rfl)]
            simp [hi, h0, hr]
          · cases st; simp_all
      · cases e
theorem run_out : ∀ (ss : List (List UInt8)) (st st' : PS) (n : Nat), runP st n ss = .ok st' → st'.jumps = [] → (∀ s ∈ ss, (58 : UInt8) ∉ s) →
    (∀ s ∈ ss, lineR s ≠ none) ∧ st' = ⟨st.out ++ outs ss, [], st.marks⟩
  | [], st, st', n, e, h, _ => by
    simp only [runP] at e
    injection e with e
    subst e
    exact ⟨fun s hs => (by cases hs), by cases st; simp_all [outs]⟩
  | s :: ss, st, st', n, e, h, h58 => by
    have hj := run_jumps _ _ _ _ e h
    simp only [runP] at e
    split at e
    · cases e
    · next st1 e1 =>
      have hj1 := run_jumps ss st1 st' _ e h
      obtain ⟨r, h1, h2⟩ := step_out e1 hj hj1 (h58 s (List.mem_cons_self ..))
      obtain ⟨h3, h4⟩ := run_out ss st1 st' _ e h (fun q hq => h58 q (List.mem_cons_of_mem _ hq))
      subst h2
      refine ⟨fun q hq => ?_, ?_⟩
      · rcases List.mem_cons.1 hq with rfl | hq
        · rw [h1]; simp
        · exact h3 q hq
      · rw [h4]
        unfold outs
        rw [List.filterMap_cons, h1]
        cases r <;> simp
theorem run_all : ∀ (ss : List (List UInt8)) (out : List IV) (n : Nat), (∀ s ∈ ss, lineR s ≠ none) → out.length + (outs ss).length ≤ 4096 → runP ⟨out, [], []⟩ n ss = .ok ⟨out ++ outs ss, [], []⟩
  | [], out, n, _, _ => by simp [runP, outs]
  | s :: ss, out, n, h, hl => by
    obtain ⟨r, hr⟩ := Option.ne_none_iff_exists'.1 (h s (List.mem_cons_self ..))
    have e : outs (s :: ss) = r.toList ++ outs ss := by
      unfold outs
      rw [List.filterMap_cons, hr]
      cases r <;> rfl
    rw [e] at hl ⊢
    have hs : stepP ⟨out, [], []⟩ n s = .ok ⟨out ++ r.toList, [], []⟩ := by
      unfold lineR lineT at hr
      unfold stepP
      split at hr
      · cases hr
      · next t ht =>
        split at hr
        · next h0 =>
          subst h0
          injection hr with hr
          subst hr
          rw [ht]
          simp
        · next h0 =>
          split at hr
          · cases hr
          · next hm =>
            have hm : markT t = none := by simpa using hm
            split at hr
            · next i to hi =>
              split at hr
              · next hc =>
                injection hr with hr
                subst hr
                obtain ⟨rfl, hR⟩ := hc
                rw [ht]
                cases t with
                | nil => exact absurd rfl h0
                | cons a b =>
                  simp only [hm, hi, hR, if_true]
                  rw [if_neg (by simp at hl; omega)]
                  rfl
              · cases hr
            · cases hr
    rw [runP, hs]
    simp only
    rw [run_all ss (out ++ r.toList) (n + 1) (fun q hq => h q (List.mem_cons_of_mem _ hq)) (by simp at hl ⊢; omega), List.append_assoc]
theorem toksA_tail {c : UInt8} {r : Nm} (hb : blankC c = true) (hr : toks r = some []) : ∀ (s cur : Nm), toksA cur (s ++ c :: r) = toksA cur s
  | [], cur => by
    have h1 : c ≠ 35 := by rintro rfl; exact absurd hb (by decide)
    have h2 : wordC c = false := by
      unfold blankC at hb
      simp only [Bool.or_eq_true, decide_eq_true_eq] at hb
      rcases hb with (h | h) | h <;> subst h <;> decide
    unfold toks at hr
    simp [toksA, h1, h2, hb, hr]
  | d :: s, cur => by
    have ih := toksA_tail hb hr s
    rw [List.cons_append, toksA, toksA, ih, ih]
theorem toks_head {c : UInt8} (hb : blankC c = true) (s : Nm) : toks (c :: s) = toks s := by
  have := zt_blank hb s
  rw [List.singleton_append] at this
  rw [this]
  cases toks s <;> simp
/-- What stands behind the lines of the first text. -/
def tail1 : Nm := [32, 35, 32, 120, 58, 32, 91]
theorem line_tail (s : Nm) : lineR (s ++ tail1) = lineR s := by
  unfold lineR toks tail1
  rw [toksA_tail (c := 32) (by decide) (by decide)]
theorem line_cr (s : Nm) : lineR (s ++ [13]) = lineR s := by
  unfold lineR toks
  rw [toksA_tail (c := 13) (by decide) (by decide)]
theorem line_tab (s : Nm) : lineR (9 :: s) = lineR s := by
  unfold lineR
  rw [toks_head (by decide)]
def repl (s : Nm) : Nm := s.flatMap fun c => if c = 10 then tail1 ++ [10, 32, 10] else [c]
def inter : List Nm → List Nm
  | [] => []
  | [l] => [l]
  | l :: m :: ls => (l ++ tail1) :: [32] :: inter (m :: ls)
theorem linesA_ne (s cur : Nm) : linesA cur s ≠ [] := by
  intro e
  have := linesA_len s cur
  rw [e] at this
  simp at this
theorem lines_repl : ∀ (s cur r : Nm), (∀ l, linesA l r = [l ++ r]) → linesA cur (repl s ++ r) = inter (linesA cur (s ++ r))
  | [], cur, r, h => by
    show linesA cur r = inter (linesA cur r)
    rw [h cur]
    rfl
  | c :: s, cur, r, h => by
    have ih := lines_repl s
    unfold repl at *
    rw [List.flatMap_cons, List.append_assoc, List.cons_append]
    by_cases hc : c = 10
    · rw [if_pos hc, hc]
      have e : tail1 ++ [10, 32, 10] ++ (List.flatMap (fun c => if c = 10 then tail1 ++ [10, 32, 10] else [c]) s ++ r) = tail1 ++ 10 :: ([32] ++ 10 :: (List.flatMap (fun c => if c = 10 then tail1 ++ [10, 32, 10] else [c]) s ++ r)) := by simp
      rw [e, linesA_app _ _ _ (by decide), linesA_app _ _ _ (by decide), ih [] r h]
      simp only [linesA, if_true, List.nil_append]
      cases hl : linesA [] (s ++ r) with
      | nil => exact absurd hl (linesA_ne _ _)
      | cons a b => rfl
    · rw [if_neg hc, List.singleton_append, linesA, if_neg hc, ih _ r h, linesA, if_neg hc]
theorem map_tab : ∀ (s cur : Nm), (linesA (9 :: cur) s).map lineR = (linesA cur s).map lineR
  | [], cur => by simp [linesA, line_tab]
  | c :: s, cur => by
    rw [linesA, linesA]
    split
    · rw [List.map_cons, List.map_cons, line_tab]
    · rw [List.cons_append, map_tab s]
theorem map_cr : ∀ (s cur : Nm), (linesA cur (s ++ [13])).map lineR = (linesA cur s).map lineR
  | [], cur => by
    have e : linesA cur ([] ++ [13]) = [cur ++ [13]] := by simp [linesA]
    rw [e]
    simp [linesA, line_cr]
  | c :: s, cur => by
    rw [List.cons_append, linesA, linesA]
    split
    · rw [List.map_cons, List.map_cons, map_cr s]
    · rw [map_cr s]
theorem outs_map {a b : List Nm} (h : a.map lineR = b.map lineR) : outs a = outs b ∧ ((∀ s ∈ b, lineR s ≠ none) → ∀ s ∈ a, lineR s ≠ none) := by
  constructor
  · have : ∀ l : List Nm, outs l = (l.map lineR).filterMap Option.join := by intro l; unfold outs; rw [List.filterMap_map]; rfl
    rw [this, this, h]
  · intro hb s hs
    have : lineR s ∈ b.map lineR := by rw [← h]; exact List.mem_map_of_mem hs
    obtain ⟨t, ht, e⟩ := List.mem_map.1 this
    rw [← e]
    exact hb t ht
theorem outs_app (a b : List Nm) : outs (a ++ b) = outs a ++ outs b := by unfold outs; rw [List.filterMap_append]
theorem outs_cons (a : Nm) (b : List Nm) : outs (a :: b) = (lineR a).join.toList ++ outs b := by
  unfold outs
  rw [List.filterMap_cons]
  cases (lineR a).join <;> rfl
theorem inter_outs : ∀ l : List Nm, outs (inter l) = outs l ∧ ((∀ s ∈ l, lineR s ≠ none) → ∀ s ∈ inter l, lineR s ≠ none)
  | [] => ⟨rfl, fun h => h⟩
  | [l] => ⟨rfl, fun h => h⟩
  | l :: m :: ls => by
    obtain ⟨h1, h2⟩ := inter_outs (m :: ls)
    have e : lineR [32] = some none := by decide +kernel
    refine ⟨?_, fun h s hs => ?_⟩
    · rw [inter, outs_cons, outs_cons, outs_cons l, h1, line_tail, e]
      rfl
    · rw [inter] at hs
      rcases List.mem_cons.1 hs with rfl | hs
      · rw [line_tail]; exact h l (List.mem_cons_self ..)
      · rcases List.mem_cons.1 hs with rfl | hs
        · rw [e]; simp
        · exact h2 (fun s hs => h s (List.mem_cons_of_mem _ hs)) s hs
theorem linesA_join : ∀ (s cur r : Nm), linesA cur (s ++ 10 :: r) = linesA cur s ++ linesA [] r
  | [], cur, r => by simp [linesA]
  | c :: s, cur, r => by
    rw [List.cons_append, linesA, linesA]
    split
    · rw [linesA_join s, List.cons_append]
    · rw [linesA_join s]
theorem lines_mem : ∀ (s cur : Nm) (x : UInt8), (∃ l ∈ linesA cur s, x ∈ l) → x ∈ cur ∨ x ∈ s
  | [], cur, x, ⟨l, h, hx⟩ => by simp [linesA] at h; subst h; exact .inl hx
  | c :: s, cur, x, ⟨l, h, hx⟩ => by
    rw [linesA] at h
    split at h
    · rcases List.mem_cons.1 h with rfl | h
      · exact .inl hx
      · rcases lines_mem s [] x ⟨l, h, hx⟩ with q | q
        · cases q
        · exact .inr (List.mem_cons_of_mem _ q)
    · rcases lines_mem s _ x ⟨l, h, hx⟩ with q | q
      · rcases List.mem_append.1 q with q | q
        · exact .inl q
        · simp at q; exact .inr (by simp [q])
      · exact .inr (List.mem_cons_of_mem _ q)
/-- A text without labels that is parsed: what its lines say. -/
theorem parse_lines {s : Nm} {l : List IV} (h : parseP s = .ok l) (h58 : (58 : UInt8) ∉ s) : (∀ x ∈ linesP s, lineR x ≠ none) ∧ l = outs (linesP s) := by
  unfold parseP at h
  split at h
  · cases h
  · split at h
    · cases h
    · next st e =>
      have hm : ∀ (ss : List (List UInt8)) (st st' : PS) (n : Nat), runP st n ss = .ok st' → (∀ s ∈ ss, (58 : UInt8) ∉ s) → st'.marks = st.marks := by
        intro ss
        induction ss with
        | nil => intro st st' n e _; simp only [runP] at e; injection e with e; subst e; rfl
        | cons s ss ih =>
          intro st st' n e h8
          simp only [runP] at e
          split at e
          · cases e
          · next st1 e1 =>
            rw [ih st1 st' _ e (fun q hq => h8 q (List.mem_cons_of_mem _ hq))]
            unfold stepP at e1
            split at e1
            · cases e1
            · injection e1 with e1; subst e1; rfl
            · next t _ ht =>
              rw [mark_none ht (h8 s (List.mem_cons_self ..))] at e1
              simp only at e1
              split at e1
              · cases e1
              · split at e1
                · split at e1
                  · cases e1
                  · injection e1 with e1; subst e1; rfl
                · cases e1
      have h8 : ∀ x ∈ linesP s, (58 : UInt8) ∉ x := fun x hx q => (lines_mem s [] 58 ⟨x, hx, q⟩).elim (fun q => by cases q) h58
      have hmk := hm _ _ _ _ e h8
      have hj : st.jumps = [] := by
        cases hjj : st.jumps with
        | nil => rfl
        | cons j js =>
          rw [hjj, hmk] at h
          simp [landP, hasM, ps0] at h
      obtain ⟨h1, h2⟩ := run_out _ _ _ _ e hj h8
      rw [hj] at h
      simp only [landP] at h
      injection h with h
      refine ⟨h1, ?_⟩
      rw [← h, h2]
      simp [ps0]
/-- The text of both. -/
def bothT (a b : Nm) : Nm := [35, 32, 102, 105, 114, 115, 116, 10, 9] ++ repl a ++ [13, 10, 10] ++ b ++ [10, 35]
theorem repl_len : ∀ a : Nm, (repl a).length ≤ 10 * a.length
  | [] => by simp [repl]
  | c :: a => by
    have := repl_len a
    unfold repl at *
    rw [List.flatMap_cons]
    have ht : tail1.length = 7 := rfl
    split <;> simp only [List.length_append, List.length_cons, List.length_nil, ht] <;> omega
theorem parse_both {a b : Nm} {x y : List IV} (ha : parseP a = .ok x) (hb : parseP b = .ok y) (ha8 : (58 : UInt8) ∉ a) (hb8 : (58 : UInt8) ∉ b) (hl : x.length + y.length ≤ 4096) (hs : a.length + b.length ≤ 20000) : parseP (bothT a b) = .ok (x ++ y) := by
  obtain ⟨a1, a2⟩ := parse_lines ha ha8
  obtain ⟨b1, b2⟩ := parse_lines hb hb8
  have hr := repl_len a
  have e : linesP (bothT a b) = [[35, 32, 102, 105, 114, 115, 116]] ++ inter (linesA [9] (a ++ [13])) ++ [[]] ++ linesP b ++ [[35]] := by
    unfold linesP bothT
    have e1 : [35, 32, 102, 105, 114, 115, 116, 10, 9] ++ repl a ++ [13, 10, 10] ++ b ++ [10, 35] = [35, 32, 102, 105, 114, 115, 116] ++ 10 :: (9 :: (repl a ++ [13]) ++ 10 :: ([] ++ 10 :: (b ++ 10 :: [35]))) := by simp
    rw [e1, linesA_app _ _ _ (by decide), linesA_join, linesA_join, linesA_join]
    have e2 : linesA [] (9 :: (repl a ++ [13])) = linesA [9] (repl a ++ [13]) := by rw [linesA, if_neg (by decide)]; rfl
    rw [e2, lines_repl a [9] [13] (by intro l; simp [linesA])]
    simp [linesA]
  have m1 : (linesA [9] (a ++ [13])).map lineR = (linesP a).map lineR := by
    rw [map_cr, map_tab a []]
    rfl
  obtain ⟨o1, o2⟩ := outs_map m1
  obtain ⟨i1, i2⟩ := inter_outs (linesA [9] (a ++ [13]))
  have f1 : lineR [35, 32, 102, 105, 114, 115, 116] = some none := by decide +kernel
  have f2 : lineR [] = some none := by decide +kernel
  have f3 : lineR [35] = some none := by decide +kernel
  have ho : outs (linesP (bothT a b)) = x ++ y := by
    rw [e]
    simp only [outs_app, i1, o1, ← a2, ← b2]
    rw [outs_cons, outs_cons [], outs_cons [35], f1, f2, f3]
    simp [outs]
  have hall : ∀ s ∈ linesP (bothT a b), lineR s ≠ none := by
    intro s hs
    rw [e] at hs
    simp only [List.mem_append, List.mem_cons, List.not_mem_nil, or_false] at hs
    rcases hs with (((rfl | hs) | rfl) | hs) | rfl
    · rw [f1]; simp
    · exact i2 (o2 a1) s hs
    · rw [f2]; simp
    · exact b1 s hs
    · rw [f3]; simp
  unfold parseP
  rw [if_neg (by unfold bothT; simp only [List.length_append, List.length_cons, List.length_nil]; omega)]
  have := run_all (linesP (bothT a b)) [] 1 hall (by rw [ho]; simpa using hl)
  unfold ps0
  rw [this, ho]
  rfl
end Go.Proofs.YtjebjninlejoeaaGreatDoor
namespace Go.Proofs.YtjebjninlejoeaaGreatDoor
open Go.Lib
set_option linter.unusedVariables false
set_option linter.unusedSimpArgs false

theorem index_not : ∀ (s : List UInt8) (c : UInt8), c ∉ s → indexByte s c = -1
  | [], c, _ => rfl
  | b :: l, c, h => by
    have h1 : (b == c) = false := by simp; rintro rfl; simp at h
    have h2 := index_not l c (fun q => h (List.mem_cons_of_mem _ q))
    simp [indexByte, h1, h2]
theorem index_mid : ∀ (a b : List UInt8) (c : UInt8), c ∉ a → indexByte (a ++ c :: b) c = a.length
  | [], b, c, _ => by simp [indexByte]
  | d :: a, b, c, h => by
    have h1 : (d == c) = false := by simp; rintro rfl; simp at h
    have h2 := index_mid a b c (fun q => h (List.mem_cons_of_mem _ q))
    simp only [List.cons_append, indexByte, h1, h2]
    have : ((a.length : Int) == -1) = false := by simp
    simp [this]
theorem first_at : ∀ (s : List UInt8) (c : UInt8), c ∉ s ∨ ∃ a b, s = a ++ c :: b ∧ c ∉ a
  | [], c => .inl (by simp)
  | d :: s, c => by
    by_cases h : d = c
    · exact .inr ⟨[], s, by rw [h]; rfl, by simp⟩
    · rcases first_at s c with q | ⟨a, b, q, qa⟩
      · exact .inl (by simp; exact ⟨fun e => h e.symm, q⟩)
      · exact .inr ⟨d :: a, b, by rw [q]; rfl, by simp; exact ⟨fun e => h e.symm, qa⟩⟩
theorem lines_none {s : Nm} (h : (10 : UInt8) ∉ s) (cur : Nm) : linesA cur s = [cur ++ s] := by
  induction s generalizing cur with
  | nil => simp [linesA]
  | cons c s ih =>
    rw [linesA, if_neg (by rintro rfl; simp at h), ih (fun q => h (List.mem_cons_of_mem _ q))]
    simp
theorem split_lines : ∀ (k : Nat) (s : Nm), s.count 10 ≤ k → splitK [10] 0 k s = linesP s
  | 0, s, h => by
    have h0 : (10 : UInt8) ∉ s := List.count_eq_zero.1 (Nat.le_zero.1 h)
    rw [splitK]
    unfold linesP
    rw [lines_none h0]
    rfl
  | k + 1, s, h => by
    rw [splitK, index_one]
    rcases first_at s 10 with h0 | ⟨a, b, rfl, ha⟩
    · rw [index_not s 10 h0]
      unfold linesP
      rw [lines_none h0]
      rfl
    · have hc : b.count 10 ≤ k := by
        rw [List.count_append, List.count_cons_self] at h
        omega
      rw [index_mid a b 10 ha]
      have e : ((a.length : Int) == -1) = false := by simp
      rw [e]
      simp only [Bool.false_eq_true, if_false, Int.toNat_natCast, Nat.add_zero, List.length_singleton]
      rw [List.take_left, show List.drop (a.length + 1) (a ++ 10 :: b) = b by rw [show a ++ 10 :: b = (a ++ [10]) ++ b by simp, List.drop_left' (by simp)]]
      rw [split_lines k b hc]
      unfold linesP
      rw [linesA_app a [] b (fun c hc e => ha (e ▸ hc))]
      rfl
/-- strings.Split at a line's end. -/
theorem split_is (s : ByteArray) : splitB ⟨#[10]⟩ 0 (countB s ⟨#[10]⟩) s = (linesP s.data.toList).map fun l => (⟨l.toArray⟩ : ByteArray) := by
  have h := splitB_data ⟨#[10]⟩ 0 (countB s ⟨#[10]⟩) s
  have e : splitK [10] 0 (countB s ⟨#[10]⟩) s.data.toList = linesP s.data.toList := split_lines _ _ (by show s.data.toList.count 10 ≤ count s.data.toList [10]; rw [count_one]; exact Nat.le_refl _)
  have e2 : (⟨#[10]⟩ : ByteArray).data.toList = [10] := rfl
  rw [e2, e] at h
  rw [← h, List.map_map]
  have : (fun l : List UInt8 => (⟨l.toArray⟩ : ByteArray)) ∘ (fun x : ByteArray => x.data.toList) = id := by
    funext x
    cases x
    simp
  rw [this, List.map_id]
theorem count_is (s : ByteArray) : countB s ⟨#[10]⟩ = s.data.toList.count 10 := count_one 10 _
theorem lines_len (s : Nm) : (linesP s).length = s.count 10 + 1 := linesA_len s []
theorem lines_mem_ne : ∀ (s cur : Nm), (∀ c ∈ cur, c ≠ (10 : UInt8)) → ∀ l ∈ linesA cur s, ∀ c ∈ l, c ≠ (10 : UInt8)
  | [], cur, h, l, hl => by simp [linesA] at hl; subst hl; exact h
  | d :: s, cur, h, l, hl => by
    rw [linesA] at hl
    split at hl
    · rcases List.mem_cons.1 hl with rfl | hl
      · exact h
      · exact lines_mem_ne s [] (fun c hc => by cases hc) l hl
    · next hd =>
      exact lines_mem_ne s _ (fun c hc => by
        rcases List.mem_append.1 hc with q | q
        · exact h c q
        · simp at q; subst q; exact hd) l hl
theorem lines_short : ∀ (s cur : Nm), ∀ l ∈ linesA cur s, l.length ≤ cur.length + s.length
  | [], cur, l, hl => by simp [linesA] at hl; subst hl; simp
  | d :: s, cur, l, hl => by
    rw [linesA] at hl
    split at hl
    · rcases List.mem_cons.1 hl with rfl | hl
      · simp
      · have := lines_short s [] l hl; simp at this ⊢; omega
    · have := lines_short s _ l hl; simp at this ⊢; omega
/-- What a comment leaves. -/
theorem toks_hash : ∀ (a b cur : Nm), toksA cur (a ++ 35 :: b) = toksA cur a
  | [], b, cur => by simp [toksA]
  | c :: a, b, cur => by
    have ih := toks_hash a b
    rw [List.cons_append, toksA, toksA, ih, ih]
theorem toks_cut (s : Nm) : toks (cut s [35]).1 = toks s ∧ (35 : UInt8) ∉ (cut s [35]).1 ∧ (cut s [35]).1.length ≤ s.length := by
  unfold cut
  rw [index_one]
  rcases first_at s 35 with h0 | ⟨a, b, rfl, ha⟩
  · rw [index_not s 35 h0]
    exact ⟨rfl, h0, Nat.le_refl _⟩
  · rw [index_mid a b 35 ha, if_pos (by omega)]
    simp only [Int.toNat_natCast, List.take_left]
    exact ⟨(toks_hash a b []).symm, ha, by simp⟩
def blanks : List UInt8 := [32, 9, 13]
theorem blanks_iff (c : UInt8) : blanks.contains c = true ↔ blankC c = true := by
  unfold blanks blankC
  simp only [List.contains_cons, List.contains_nil, Bool.or_false, Bool.or_eq_true, beq_iff_eq, decide_eq_true_eq]
  constructor <;> rintro h <;> rcases h with h | h | h <;> simp_all
theorem toks_left : ∀ s : Nm, toks (trimLeftS s blanks) = toks s ∧ (trimLeftS s blanks).length ≤ s.length ∧ (∀ c, c ∈ trimLeftS s blanks → c ∈ s) ∧ (∀ c, (trimLeftS s blanks).head? = some c → blankC c = false)
  | [] => ⟨rfl, Nat.le_refl _, fun _ h => h, fun c h => by cases h⟩
  | c :: s => by
    unfold trimLeftS
    obtain ⟨h1, h2, h3, h4⟩ := toks_left s
    unfold trimLeftS at h1 h2 h3 h4
    by_cases hb : blankC c = true
    · rw [List.dropWhile_cons_of_pos ((blanks_iff c).2 hb)]
      exact ⟨by rw [h1, toks_head hb], Nat.le_succ_of_le h2, fun d hd => List.mem_cons_of_mem _ (h3 d hd), h4⟩
    · rw [List.dropWhile_cons_of_neg (fun q => hb ((blanks_iff c).1 q))]
      exact ⟨rfl, Nat.le_refl _, fun _ h => h, fun d hd => by injection hd with hd; subst hd; simpa using hb⟩
theorem toks_blanks : ∀ r : Nm, (∀ c ∈ r, blankC c = true) → toks r = some []
  | [], _ => rfl
  | c :: r, h => by
    rw [toks_head (h c (List.mem_cons_self ..))]
    exact toks_blanks r fun d hd => h d (List.mem_cons_of_mem _ hd)
theorem toks_tailB (s r : Nm) (h : ∀ c ∈ r, blankC c = true) : toks (s ++ r) = toks s := by
  cases r with
  | nil => simp
  | cons c r =>
    unfold toks
    exact toksA_tail (h c (List.mem_cons_self ..)) (toks_blanks r fun d hd => h d (List.mem_cons_of_mem _ hd)) s []
theorem dropWhile_split {α : Type} (p : α → Bool) : ∀ l : List α, ∃ t, l = t ++ l.dropWhile p ∧ ∀ x ∈ t, p x = true
  | [] => ⟨[], rfl, fun x h => by cases h⟩
  | a :: l => by
    by_cases h : p a = true
    · obtain ⟨t, h1, h2⟩ := dropWhile_split p l
      refine ⟨a :: t, ?_, fun x hx => ?_⟩
      · rw [List.dropWhile_cons_of_pos h, List.cons_append, ← h1]
      · rcases List.mem_cons.1 hx with rfl | hx
        · exact h
        · exact h2 x hx
    · exact ⟨[], by rw [List.dropWhile_cons_of_neg h]; rfl, fun x h => by cases h⟩
theorem toks_right (s : Nm) : toks (trimRightS s blanks) = toks s ∧ (∀ c, c ∈ trimRightS s blanks → c ∈ s) ∧ (trimRightS s blanks).length ≤ s.length := by
  unfold trimRightS
  obtain ⟨t, h1, h2⟩ := dropWhile_split (blanks.contains ·) s.reverse
  have e : s = (s.reverse.dropWhile (blanks.contains ·)).reverse ++ t.reverse := by
    have := congrArg List.reverse h1
    rw [List.reverse_reverse, List.reverse_append] at this
    exact this
  have hb : ∀ c ∈ t.reverse, blankC c = true := fun c hc => (blanks_iff c).1 (h2 c (List.mem_reverse.1 hc))
  generalize (s.reverse.dropWhile (blanks.contains ·)).reverse = u at *
  subst e
  exact ⟨(toks_tailB u _ hb).symm, fun c hc => List.mem_append_left _ hc, by simp⟩
theorem toks_trim (s : Nm) : toks (trimS s blanks) = toks s ∧ (∀ c, c ∈ trimS s blanks → c ∈ s) ∧ (∀ c, (trimS s blanks).head? = some c → blankC c = false) ∧ (trimS s blanks).length ≤ s.length := by
  unfold trimS
  obtain ⟨h1, h2, h3, h4⟩ := toks_left (trimRightS s blanks)
  obtain ⟨k1, k2, k3⟩ := toks_right s
  exact ⟨h1.trans k1, fun c hc => k2 c (h3 c hc), h4, by omega⟩
/-- A token at the head of what is left of a line. -/
theorem toks_word (w r : Nm) (h : w.all wordC = true) (h0 : w ≠ []) (hr : Nw r) : toks (w ++ r) = (toks r).map ([w] ++ ·) := wt_word h h0 r hr
theorem toks_one (c : UInt8) (r : Nm) (h : signC c = true) : toks (c :: r) = (toks r).map ([[c]] ++ ·) := zt_sign h r
theorem toks_bad (c : UInt8) (r : Nm) (h1 : wordC c = false) (h2 : blankC c = false) (h3 : signC c = false) (h4 : c ≠ 35) : toks (c :: r) = none := by
  unfold toks
  rw [toksA, if_neg h4]
  simp [h1, h2, h3]
def signs : List UInt8 := [44, 91, 93, 43, 45, 58]
theorem index_sign (c : UInt8) : decide (indexByte signs c < 0) = !signC c := by
  by_cases h : signC c = true
  · have : c = 44 ∨ c = 91 ∨ c = 93 ∨ c = 43 ∨ c = 45 ∨ c = 58 := by
      unfold signC at h
      simp only [Bool.or_eq_true, decide_eq_true_eq] at h
      rcases h with ((((h | h) | h) | h) | h) | h <;> simp [h]
    rcases this with rfl | rfl | rfl | rfl | rfl | rfl <;> decide
  · have h : signC c = false := by simpa using h
    rw [index_not signs c (fun hm => by
      have : ∀ x ∈ signs, signC x = true := by decide
      rw [this c hm] at h
      cases h), h]
    decide
end Go.Proofs.YtjebjninlejoeaaGreatDoor
namespace Go.Proofs.YtjebjninlejoeaaGreatDoor
set_option linter.unusedVariables false
set_option linter.unusedSimpArgs false

theorem right_off_no {i : IV} {o : Int} (hj : JmpOp i) (ho : inI o (-32768) 32767 = false) : rightP { i with off := o } = false := by
  unfold rightP
  rcases hj with h | ⟨h1, h2⟩
  · simp [h, farR, ho]
  · have a1 : ¬ (1 ≤ i.op ∧ i.op ≤ 12) := by omega
    have a2 : ¬ i.op = 13 := by omega
    have a3 : ¬ i.op = 14 := by omega
    have a4 : ¬ i.op = 15 := by omega
    have a5 : ¬ i.op = 16 := by omega
    simp [a1, a2, a3, a4, a5, h1, h2, farR, ho]
/-- A line that begins with a word of the language. -/
theorem step_word {s s0 : Nm} {t : List Nm} {st : PS} {n : Nat} {i : IV} {k : Kind} (ht : toks s = some (s0 :: t)) (hm : markT (s0 :: t) = none) (hw : wayP s0 = some (i, k)) :
    (restT i t k = none → stepP st n s = .error (120, n)) ∧
    (∀ i' to r, restT i t k = some (i', to, r) → (r ≠ [] → stepP st n s = .error (120, n)) ∧ (rightP i' = false → stepP st n s = .error (120, n)) ∧
      (r = [] → rightP i' = true → (st.out.length = 4096 → stepP st n s = .error (3, n)) ∧ (st.out.length ≠ 4096 → (to = [] → stepP st n s = .ok { st with out := st.out ++ [i'] }) ∧ (to ≠ [] → stepP st n s = .ok { st with out := st.out ++ [i'], jumps := st.jumps ++ [⟨st.out.length, n, to⟩] })))) := by
  refine ⟨fun h => ?_, fun i' to r h => ⟨fun hr => ?_, fun hr => ?_, fun hr h1 => ⟨fun h2 => ?_, fun h2 => ⟨fun h3 => ?_, fun h3 => ?_⟩⟩⟩⟩ <;> unfold stepP <;> rw [ht] <;> simp only [hm, instP, hw, h]
  · cases r with
    | nil => exact absurd rfl hr
    | cons a r => rfl
  · cases r with
    | nil => simp [hr]
    | cons a r => rfl
  · subst hr; simp [h1, h2]
  · subst hr; simp [h1, h2, h3]
  · subst hr; simp [h1, h2, h3]
theorem step_unknown {s s0 : Nm} {t : List Nm} {st : PS} {n : Nat} (ht : toks s = some (s0 :: t)) (hm : markT (s0 :: t) = none) (hw : wayP s0 = none) : stepP st n s = .error (120, n) := by
  unfold stepP
  rw [ht]
  simp only [hm, instP, hw]
theorem step_bad {s : Nm} {st : PS} {n : Nat} (ht : toks s = none) : stepP st n s = .error (120, n) := by
  unfold stepP
  rw [ht]
theorem step_none {s : Nm} {st : PS} {n : Nat} (ht : toks s = some []) : stepP st n s = .ok st := by
  unfold stepP
  rw [ht]
theorem mark_form {t : List Nm} {a : Nm} (h : markT t = some a) : t = [a, [58]] ∧ labelP a = true := by
  unfold markT at h
  split at h
  · next x y =>
    split at h
    · next hy => injection h with h; subst h; exact ⟨by rw [hy.1], hy.2⟩
    · cases h
  · cases h
theorem step_mark {s a : Nm} {t : List Nm} {st : PS} {n : Nat} (ht : toks s = some t) (hm : markT t = some a) : (hasM st.marks a = none → stepP st n s = .ok { st with marks := st.marks ++ [(a, st.out.length)] }) ∧ (∀ k, hasM st.marks a = some k → stepP st n s = .error (121, n)) := by
  obtain ⟨rfl, hl⟩ := mark_form hm
  unfold stepP
  rw [ht]
  simp only [hm]
  exact ⟨fun h => by rw [h], fun k h => by rw [h]⟩
end Go.Proofs.YtjebjninlejoeaaGreatDoor
namespace Go.Proofs.YtjebjninlejoeaaGreatDoor
set_option linter.unusedVariables false
set_option linter.unusedSimpArgs false

theorem toks_shortA (N : Nat) : ∀ (s cur : Nm) (l : List Nm), cur.length + s.length ≤ N → 1 ≤ N ∨ s = [] → toksA cur s = some l → ∀ t ∈ l, t.length ≤ N
  | [], cur, l, hn, _, h, t, ht => by
    simp only [toksA, flush] at h
    split at h
    · injection h with h; subst h; cases ht
    · next h0 => simp at h; subst h; simp at ht; subst ht; simpa using hn
  | d :: s, cur, l, hn, hN, h, t, ht => by
    simp only [List.length_cons] at hn
    have h1N : 1 ≤ N := by omega
    have fl : ∀ r : Option (List Nm), flush cur r = some l → (∀ l', r = some l' → ∀ t ∈ l', t.length ≤ N) → t.length ≤ N := by
      intro r hr hk
      unfold flush at hr
      split at hr
      · exact hk l hr t ht
      · next h0 =>
        obtain ⟨l', h1, h2⟩ := Option.map_eq_some_iff.1 hr
        subst h2
        rcases List.mem_cons.1 ht with rfl | ht
        · omega
        · exact hk l' h1 t ht
    simp only [toksA] at h
    split at h
    · exact fl _ h (fun l' e => by injection e with e; subst e; intro t ht; cases ht)
    · split at h
      · exact toks_shortA N s _ l (by simp; omega) (.inl h1N) h t ht
      · split at h
        · exact fl _ h fun l' e => toks_shortA N s [] l' (by simp; omega) (.inl h1N) e
        · split at h
          · refine fl _ h fun l' e => ?_
            obtain ⟨l2, h1, h2⟩ := Option.map_eq_some_iff.1 e
            subst h2
            intro t ht
            rcases List.mem_cons.1 ht with rfl | ht
            · exact h1N
            · exact toks_shortA N s [] l2 (by simp; omega) (.inl h1N) h1 t ht
          · cases h
theorem toks_short {s : Nm} {l : List Nm} (h : toks s = some l) : ∀ t ∈ l, t.length ≤ s.length := by
  cases s with
  | nil => exact toks_shortA 0 [] [] l (by simp) (.inr rfl) h
  | cons a s => exact toks_shortA _ (a :: s) [] l (by simp) (.inl (by simp)) h
/-- No more jumps than instructions. -/
theorem step_jlen {st st' : PS} {n : Nat} {s : List UInt8} (e : stepP st n s = .ok st') (h : st.jumps.length ≤ st.out.length) : st'.jumps.length ≤ st'.out.length := by
  unfold stepP at e
  split at e
  · cases e
  · injection e with e; subst e; exact h
  · split at e
    · split at e
      · cases e
      · injection e with e; subst e; exact h
    · split at e
      · cases e
      · split at e
        · split at e
          · cases e
          · injection e with e
            subst e
            simp only [List.length_append, List.length_cons, List.length_nil]
            split <;> simp <;> omega
        · cases e
end Go.Proofs.YtjebjninlejoeaaGreatDoor
namespace Go.Proofs.YtjebjninlejoeaaGreatDoor
set_option linter.unusedVariables false
set_option linter.unusedSimpArgs false

theorem to_len {i i' : IV} {a : Nm} {l r : List Nm} (h : toT i l = some (i', a, r)) : a.length ≤ 30 := by
  unfold toT at h
  split at h
  · cases h
  · next s t =>
    split at h
    · next hl =>
      injection h with h
      injection h with _ h
      injection h with h _
      subst h
      cases s with
      | nil => simp
      | cons c u =>
        simp only [labelP, Bool.and_eq_true, decide_eq_true_eq] at hl
        exact hl.1.1
    · obtain ⟨p, _, e⟩ := Option.map_eq_some_iff.1 h
      injection e with _ e
      injection e with e _
      subst e
      simp
theorem rest_len {i i' : IV} {a : Nm} {l r : List Nm} {k : Kind} (h : restT i l k = some (i', a, r)) : a.length ≤ 30 := by
  cases k with
  | alu => obtain ⟨p, _, e⟩ := Option.map_eq_some_iff.1 h; injection e with _ e; injection e with e _; subst e; simp
  | neg => obtain ⟨p, _, e⟩ := Option.map_eq_some_iff.1 h; injection e with _ e; injection e with e _; subst e; simp
  | ask =>
    obtain ⟨p, _, h⟩ := Option.bind_eq_some_iff.1 h
    obtain ⟨q, _, h⟩ := Option.bind_eq_some_iff.1 h
    exact to_len h
  | load =>
    obtain ⟨p, _, h⟩ := Option.bind_eq_some_iff.1 h
    obtain ⟨q, _, h⟩ := Option.bind_eq_some_iff.1 h
    obtain ⟨q, _, e⟩ := Option.map_eq_some_iff.1 h
    injection e with _ e; injection e with e _; subst e; simp
  | put =>
    obtain ⟨p, _, h⟩ := Option.bind_eq_some_iff.1 h
    obtain ⟨q, _, h⟩ := Option.bind_eq_some_iff.1 h
    obtain ⟨q, _, e⟩ := Option.map_eq_some_iff.1 h
    injection e with _ e; injection e with e _; subst e; simp
  | far => exact to_len h
  | exit => injection h with h; injection h with _ h; injection h with h _; subst h; simp
theorem inst_len {t : List Nm} {i : IV} {a : Nm} (h : instP t = some (i, a)) : a.length ≤ 30 := by
  unfold instP at h
  split at h
  · cases h
  · split at h
    · cases h
    · split at h
      · next e => injection h with h; injection h with h1 h2; subst h1 h2; exact rest_len e
      · cases h
structure QI (st : PS) (n : Nat) : Prop where
  pi : PI st
  jl : st.jumps.length ≤ st.out.length
  line : ∀ j ∈ st.jumps, j.line < n
  to_ : ∀ j ∈ st.jumps, j.to.length ≤ 30
  mks : ∀ p ∈ st.marks, p.2 ≤ st.out.length
theorem qi0 (n : Nat) : QI ps0 n := ⟨pi0, Nat.le_refl _, fun j h => (by cases h), fun j h => (by cases h), fun j h => (by cases h)⟩
theorem QI.step {st st' : PS} {n : Nat} {s : List UInt8} (h : QI st n) (e : stepP st n s = .ok st') : QI st' (n + 1) := by
  obtain ⟨h1, h2⟩ := step_inv h.pi e
  have h3 := step_jlen e h.jl
  refine ⟨h1, h3, fun j hj => (h2 j hj).elim (fun q => Nat.lt_succ_of_lt (h.line j q)) (fun q => by omega), ?_, ?_⟩
  · unfold stepP at e
    split at e
    · cases e
    · injection e with e; subst e; exact h.to_
    · split at e
      · split at e
        · cases e
        · injection e with e; subst e; exact h.to_
      · split at e
        · cases e
        · next hi =>
          split at e
          · split at e
            · cases e
            · injection e with e
              subst e
              intro j hj
              simp only at hj
              split at hj
              · exact h.to_ j hj
              · rcases List.mem_append.1 hj with hj | hj
                · exact h.to_ j hj
                · simp at hj; subst hj; exact inst_len hi
          · cases e
  · unfold stepP at e
    split at e
    · cases e
    · injection e with e; subst e; exact h.mks
    · split at e
      · split at e
        · cases e
        · injection e with e
          subst e
          intro p hp
          rcases List.mem_append.1 hp with hp | hp
          · exact h.mks p hp
          · simp at hp; subst hp; exact Nat.le_refl _
      · split at e
        · cases e
        · split at e
          · split at e
            · cases e
            · injection e with e
              subst e
              intro p hp
              have := h.mks p hp
              simp only [List.length_append, List.length_cons, List.length_nil]
              omega
          · cases e
theorem QI.marks {st : PS} {n : Nat} (h : QI st n) {s : Nm} {k : Nat} (hk : hasM st.marks s = some k) : k ≤ 4096 := by
  unfold hasM at hk
  obtain ⟨p, hp, e⟩ := Option.map_eq_some_iff.1 hk
  have := h.mks p (List.mem_of_find?_eq_some hp)
  have := h.pi.len
  omega
/-- Lines, one by one. -/
theorem run_drop {ls : List Nm} {k n : Nat} {l : Nm} {st : PS} (h : ls[k]? = some l) : runP st n (ls.drop k) = match stepP st n l with | .error e => .error e | .ok st' => runP st' (n + 1) (ls.drop (k + 1)) := by
  have hlt : k < ls.length := (List.getElem?_eq_some_iff.1 h).1
  rw [List.drop_eq_getElem_cons hlt]
  have e : ls[k] = l := by rw [List.getElem?_eq_getElem hlt] at h; exact Option.some.inj h
  rw [e]
  rfl
end Go.Proofs.YtjebjninlejoeaaGreatDoor
namespace Go.Proofs.YtjebjninlejoeaaGreatDoor
set_option linter.unusedVariables false
set_option linter.unusedSimpArgs false

/-- From place a with mark b, the document comes to a' with b', and has v; the plain reader tells r of what is left at a. -/
structure Rf {α : Type} (l : List Nm) (b : Bool) (r : Option (α × List Nm)) (v : α) (a' : Nat) (b' : Bool) : Prop where
  ok : b' = false → b = false ∧ a' ≤ l.length ∧ r = some (v, l.drop a')
  no : b = false → r.isSome = true → b' = false
/-- One step behind another. -/
theorem Rf.bind {α β : Type} {l : List Nm} {a1 a2 : Nat} {b b1 b2 : Bool} {r : Option (α × List Nm)} {f : α × List Nm → Option (β × List Nm)} {v : α} {u : β} (h : Rf l b r v a1 b1) (h2 : Rf l b1 (f (v, l.drop a1)) u a2 b2) : Rf l b (r.bind f) u a2 b2 := by
  refine ⟨fun e => ?_, fun e q => ?_⟩
  · obtain ⟨e1, e2, e3⟩ := h2.ok e
    obtain ⟨d1, d2, d3⟩ := h.ok e1
    exact ⟨d1, e2, by rw [d3]; exact e3⟩
  · cases hr : r with
    | none => rw [hr] at q; cases q
    | some p =>
      have e1 := h.no e (by rw [hr]; rfl)
      obtain ⟨d1, d2, d3⟩ := h.ok e1
      rw [d3] at q
      exact h2.no e1 q
theorem Rf.map {α β : Type} {l : List Nm} {a1 : Nat} {b b1 : Bool} {r : Option (α × List Nm)} {v : α} (h : Rf l b r v a1 b1) (f : α → β) : Rf l b (r.map fun p => (f p.1, p.2)) (f v) a1 b1 := by
  refine ⟨fun e => ?_, fun e q => h.no e (by simpa using q)⟩
  obtain ⟨d1, d2, d3⟩ := h.ok e
  exact ⟨d1, d2, by rw [d3]; rfl⟩
/-- A token that must come. -/
def mustU (x : Nm) (l : List Nm) : Option (Unit × List Nm) := (mustP x l).map fun t => ((), t)
theorem must_bind {β : Type} (x : Nm) (l : List Nm) (f : List Nm → Option β) : (mustP x l).bind f = (mustU x l).bind fun p => f p.2 := by
  unfold mustU
  cases mustP x l <;> rfl
/-- The next token; none: empty. -/
def nxT (l : List Nm) (a : Nat) : Nm := l.getD a []
theorem nx_in {l : List Nm} {a : Nat} (h : a < l.length) : l.drop a = nxT l a :: l.drop (a + 1) := by
  unfold nxT
  rw [List.drop_eq_getElem_cons h, List.getD_eq_getElem?_getD, List.getElem?_eq_getElem h]
  rfl
theorem nx_out {l : List Nm} {a : Nat} (h : ¬ a < l.length) : l.drop a = [] ∧ nxT l a = [] := by
  unfold nxT
  exact ⟨List.drop_eq_nil_of_le (by omega), by rw [List.getD_eq_getElem?_getD, List.getElem?_eq_none (by omega)]; rfl⟩
theorem regP_nil : regP [] = none := by decide
theorem numP_nil : numP [] = none := by decide
theorem labelP_nil : labelP [] = false := rfl
/-- A token that must come: the document's steps. -/
theorem rf_must {l : List Nm} {a : Nat} {b : Bool} {x : Nm} (hx : x ≠ []) : Rf l b (mustU x (l.drop a)) () (a + 1) (b || decide (nxT l a ≠ x)) := by
  by_cases h : a < l.length
  · rw [nx_in h]
    refine ⟨fun e => ?_, fun e q => ?_⟩
    · simp at e
      exact ⟨e.1, h, by simp [mustU, mustP, e.2]⟩
    · subst e
      by_cases h1 : nxT l a = x
      · simp [h1]
      · simp [mustU, mustP, h1] at q
  · obtain ⟨h1, h2⟩ := nx_out h
    rw [h1, h2]
    refine ⟨fun e => ?_, fun e q => ?_⟩
    · simp at e
      exact absurd e.2 (fun e => hx e)
    · cases q
theorem rf_reg {l : List Nm} {a : Nat} {b : Bool} {v : Int} (hv : ∀ n, regP (nxT l a) = some n → v = n) : Rf l b (regT (l.drop a)) v (a + 1) (b || (regP (nxT l a)).isNone) := by
  by_cases h : a < l.length
  · rw [nx_in h]
    cases hr : regP (nxT l a) with
    | none => exact ⟨fun e => by simp at e, fun e q => by simp [regT, hr] at q⟩
    | some n =>
      obtain rfl := hv n hr
      exact ⟨fun e => ⟨by simpa using e, h, by simp [regT, hr]⟩, fun e q => by simp [e]⟩
  · obtain ⟨h1, h2⟩ := nx_out h
    rw [h1, h2, regP_nil]
    exact ⟨fun e => by simp at e, fun e q => by cases q⟩
theorem rf_num {l : List Nm} {a : Nat} {b : Bool} {v : Int} (hv : ∀ n, numP (nxT l a) = some n → v = n) : Rf l b (numT (l.drop a)) v (a + 1) (b || (numP (nxT l a)).isNone) := by
  by_cases h : a < l.length
  · rw [nx_in h]
    cases hr : numP (nxT l a) with
    | none => exact ⟨fun e => by simp at e, fun e q => by simp [numT, hr] at q⟩
    | some n =>
      obtain rfl := hv n hr
      exact ⟨fun e => ⟨by simpa using e, h, by simp [numT, hr]⟩, fun e q => by simp [e]⟩
  · obtain ⟨h1, h2⟩ := nx_out h
    rw [h1, h2, numP_nil]
    exact ⟨fun e => by simp at e, fun e q => by cases q⟩
/-- A number, or, below 0, the other one. -/
def numB (below : Bool) (l : List Nm) : Option (Int × List Nm) := if below then (numT l).map (fun p => (-p.1, p.2)) else numT l
/-- A sign and a number. -/
theorem rf_signed {l : List Nm} {a a' : Nat} {b b' : Bool} {v : Int} (h : Rf l (b || (decide (nxT l a ≠ [43]) && decide (nxT l a ≠ [45]))) (numB (decide (nxT l a = [45])) (l.drop (a + 1))) v a' b') : Rf l b (signT (l.drop a)) v a' b' := by
  by_cases hl : a < l.length
  · rw [nx_in hl]
    by_cases h1 : nxT l a = [43]
    · rw [h1] at h
      rw [show signT (nxT l a :: l.drop (a + 1)) = numT (l.drop (a + 1)) by simp [signT, h1]]
      simpa [numB] using h
    · by_cases h2 : nxT l a = [45]
      · rw [h2] at h
        rw [show signT (nxT l a :: l.drop (a + 1)) = (numT (l.drop (a + 1))).map (fun p => (-p.1, p.2)) by simp [signT, h2]]
        simpa [numB] using h
      · rw [show signT (nxT l a :: l.drop (a + 1)) = none by simp [signT, h1, h2]]
        simp only [h1, h2, ne_eq, not_false_eq_true, decide_true, Bool.and_self, Bool.or_true] at h
        exact ⟨fun e => absurd (h.ok e).1 (by decide), fun e q => by cases q⟩
  · obtain ⟨h1, h2⟩ := nx_out hl
    rw [h2] at h
    rw [h1]
    simp at h
    exact ⟨fun e => absurd (h.ok e).1 (by decide), fun e q => by cases q⟩
/-- A second part. -/
theorem rf_sec_reg {l : List Nm} {a : Nat} {b : Bool} {i : IV} {n : Int} (h : regP (nxT l a) = some n) : Rf l b (secT i (l.drop a)) { i with src := n } (a + 1) b := by
  by_cases hl : a < l.length
  · rw [nx_in hl]
    exact ⟨fun e => ⟨e, hl, by simp [secT, h]⟩, fun e q => e⟩
  · rw [(nx_out hl).2] at h
    cases h
theorem rf_sec_minus {l : List Nm} {a a' : Nat} {b b' : Bool} {i : IV} {v : Int} (h : nxT l a = [45]) (hn : Rf l b (numB true (l.drop (a + 1))) v a' b') : Rf l b (secT i (l.drop a)) { i with useImm := true, imm := v } a' b' := by
  by_cases hl : a < l.length
  · rw [nx_in hl]
    have e1 : regP (nxT l a) = none := by rw [h]; decide
    have e2 : secT i (nxT l a :: l.drop (a + 1)) = (numB true (l.drop (a + 1))).map fun p => ({ i with useImm := true, imm := p.1 }, p.2) := by
      simp only [secT, e1, h, if_true, numB]
      cases numT (l.drop (a + 1)) <;> rfl
    rw [e2]
    exact hn.map fun x => ({ i with useImm := true, imm := x } : IV)
  · rw [(nx_out hl).2] at h
    cases h
theorem rf_sec_num {l : List Nm} {a a' : Nat} {b b' : Bool} {i : IV} {v : Int} (h0 : regP (nxT l a) = none) (h : nxT l a ≠ [45]) (hn : Rf l b (numB false (l.drop a)) v a' b') : Rf l b (secT i (l.drop a)) { i with useImm := true, imm := v } a' b' := by
  have e2 : secT i (l.drop a) = (numB false (l.drop a)).map fun p => ({ i with useImm := true, imm := p.1 }, p.2) := by
    by_cases hl : a < l.length
    · rw [nx_in hl]
      simp only [secT, h0, h, if_false, numB, numT]
      cases numP (nxT l a) <;> rfl
    · rw [(nx_out hl).1]
      rfl
  rw [e2]
  exact hn.map fun x => { i with useImm := true, imm := x }
/-- Where a jump goes. -/
theorem rf_to_label {l : List Nm} {a : Nat} {b : Bool} {i : IV} (h : labelP (nxT l a) = true) : Rf l b ((toT i (l.drop a)).map fun p => ((p.1, p.2.1), p.2.2)) (i, nxT l a) (a + 1) b := by
  by_cases hl : a < l.length
  · rw [nx_in hl]
    exact ⟨fun e => ⟨e, hl, by simp [toT, h]⟩, fun e q => e⟩
  · rw [(nx_out hl).2] at h
    cases h
theorem rf_to_sign {l : List Nm} {a a' : Nat} {b b' : Bool} {i : IV} {v : Int} (h : labelP (nxT l a) = false) (hn : Rf l b (signT (l.drop a)) v a' b') : Rf l b ((toT i (l.drop a)).map fun p => ((p.1, p.2.1), p.2.2)) ({ i with off := v }, []) a' b' := by
  have e2 : ((toT i (l.drop a)).map fun p => ((p.1, p.2.1), p.2.2)) = (signT (l.drop a)).map fun p => (({ i with off := p.1 }, ([] : Nm)), p.2) := by
    by_cases hl : a < l.length
    · rw [nx_in hl]
      simp only [toT, h, Bool.false_eq_true, if_false]
      cases signT (nxT l a :: l.drop (a + 1)) <;> rfl
    · rw [(nx_out hl).1]
      rfl
  rw [e2]
  exact hn.map fun x => ({ i with off := x }, ([] : Nm))
end Go.Proofs.YtjebjninlejoeaaGreatDoor
namespace Go.Proofs.YtjebjninlejoeaaGreatDoor
set_option linter.unusedVariables false
set_option linter.unusedSimpArgs false

theorem fold_lt : ∀ (s : Nm) (n : Nat), s.all digitC = true → s.foldl (fun n c => 10 * n + (c.toNat - 48)) n < (n + 1) * 10 ^ s.length
  | [], n, _ => by simp
  | c :: s, n, h => by
    simp only [List.all_cons, Bool.and_eq_true] at h
    have h2 := (digC_iff c).1 h.1
    have ih := fold_lt s (10 * n + (c.toNat - 48)) h.2
    refine Nat.lt_of_lt_of_le ih ?_
    rw [List.length_cons, Nat.pow_succ]
    have : 10 * n + (c.toNat - 48) + 1 ≤ (n + 1) * 10 := by omega
    calc (10 * n + (c.toNat - 48) + 1) * 10 ^ s.length ≤ ((n + 1) * 10) * 10 ^ s.length := Nat.mul_le_mul_right _ this
      _ = (n + 1) * (10 ^ s.length * 10) := by rw [Nat.mul_assoc, Nat.mul_comm 10]
theorem numV_lt {s : Nm} (h : s.all digitC = true) {k : Nat} (hk : s.length ≤ k) : numV s < 10 ^ k := by
  have := fold_lt s 0 h
  have h2 : 10 ^ s.length ≤ 10 ^ k := Nat.pow_le_pow_right (by omega) hk
  unfold numV
  omega
/-- The number of a word, if it is one. -/
theorem numP_of {s : Nm} {v : Int} (h : numP s = some v) : s.all digitC = true ∧ s.length ≤ 10 ∧ v = numV s := by
  unfold numP at h
  split at h
  · next q =>
    simp only [Bool.and_eq_true, decide_eq_true_eq] at q
    injection h with h
    exact ⟨q.1.1.1, q.1.2, h.symm⟩
  · cases h
theorem numP_some_iff (s : Nm) : (numP s).isSome = (s.all digitC && decide (1 ≤ s.length) && decide (s.length ≤ 10) && (decide (s.length = 1) || decide (s.head? ≠ some 48))) := by
  unfold numP
  split
  · next q => rw [q]; rfl
  · next q => simpa using q
theorem rf_numB {l : List Nm} {a : Nat} {b below : Bool} {v : Int} (hv : ∀ n, numP (nxT l a) = some n → v = if below then -n else n) : Rf l b (numB below (l.drop a)) v (a + 1) (b || (numP (nxT l a)).isNone) := by
  by_cases h : a < l.length
  · rw [nx_in h]
    cases hr : numP (nxT l a) with
    | none => cases below <;> exact ⟨fun e => by simp at e, fun e q => by simp [numB, numT, hr] at q⟩
    | some n =>
      obtain rfl := hv n hr
      cases below <;> exact ⟨fun e => ⟨by simpa using e, h, by simp [numB, numT, hr]⟩, fun e q => by simp [e]⟩
  · obtain ⟨h1, h2⟩ := nx_out h
    rw [h1, h2, numP_nil]
    cases below <;> exact ⟨fun e => by simp at e, fun e q => by cases q⟩
end Go.Proofs.YtjebjninlejoeaaGreatDoor
namespace Go.Proofs.YtjebjninlejoeaaGreatDoor
set_option linter.unusedVariables false
set_option linter.unusedSimpArgs false

theorem mustU_bind {β : Type} (x : Nm) (l : List Nm) (f : List Nm → Option β) : (mustP x l).bind f = (mustU x l).bind fun p => f p.2 := must_bind x l f
/-- A cell: its register and its place. -/
def cellU (l : List Nm) : Option ((Int × Int) × List Nm) := (cellT l).map fun q => ((q.1, q.2.1), q.2.2)
theorem cell_eq (l : List Nm) : cellU l = (mustU [91] l).bind fun p0 => (regT p0.2).bind fun p => (signT p.2).bind fun q => (mustU [93] q.2).map fun r => ((p.1, q.1), r.2) := by
  unfold cellU cellT
  rw [mustU_bind]
  cases mustU [91] l with
  | none => rfl
  | some p0 =>
    simp only [Option.bind_some]
    cases regT p0.2 with
    | none => rfl
    | some p =>
      simp only [Option.bind_some]
      cases signT p.2 with
      | none => rfl
      | some q =>
        simp only [Option.bind_some, mustU]
        cases mustP [93] q.2 <;> rfl
theorem rf_cell {l : List Nm} {a a1 a2 a3 a4 : Nat} {b b1 b2 b3 b4 : Bool} {n o : Int} (h1 : Rf l b (mustU [91] (l.drop a)) () a1 b1) (h2 : Rf l b1 (regT (l.drop a1)) n a2 b2) (h3 : Rf l b2 (signT (l.drop a2)) o a3 b3) (h4 : Rf l b3 (mustU [93] (l.drop a3)) () a4 b4) : Rf l b (cellU (l.drop a)) (n, o) a4 b4 := by
  rw [cell_eq]
  exact h1.bind (f := fun p0 => (regT p0.2).bind fun p => (signT p.2).bind fun q => (mustU [93] q.2).map fun r => ((p.1, q.1), r.2)) (h2.bind (f := fun p => (signT p.2).bind fun q => (mustU [93] q.2).map fun r => ((p.1, q.1), r.2)) (h3.bind (f := fun q => (mustU [93] q.2).map fun r => ((n, q.1), r.2)) (h4.map fun _ => (n, o))))
/-- Where a jump goes, with its label. -/
def toU (i : IV) (l : List Nm) : Option ((IV × Nm) × List Nm) := (toT i l).map fun p => ((p.1, p.2.1), p.2.2)
/-- The rest of an instruction, with its label. -/
def restU (i : IV) (l : List Nm) (k : Kind) : Option ((IV × Nm) × List Nm) := (restT i l k).map fun p => ((p.1, p.2.1), p.2.2)
theorem aluT_eq (i : IV) (l : List Nm) : aluT i l = (regT l).bind fun p => (mustU [44] p.2).bind fun q => secT { i with dst := p.1 } q.2 := by
  unfold aluT
  cases regT l with
  | none => rfl
  | some p => simp only [Option.bind_some]; rw [mustU_bind]
theorem rf_aluT {l : List Nm} {a a1 a2 a3 : Nat} {b b1 b2 b3 : Bool} {i i' : IV} {n : Int} (h1 : Rf l b (regT (l.drop a)) n a1 b1) (h2 : Rf l b1 (mustU [44] (l.drop a1)) () a2 b2) (h3 : Rf l b2 (secT { i with dst := n } (l.drop a2)) i' a3 b3) : Rf l b (aluT i (l.drop a)) i' a3 b3 := by
  rw [aluT_eq]
  exact h1.bind (f := fun p => (mustU [44] p.2).bind fun q => secT { i with dst := p.1 } q.2) (h2.bind (f := fun q => secT { i with dst := n } q.2) h3)
theorem rf_alu {l : List Nm} {a a3 : Nat} {b b3 : Bool} {i i' : IV} (h : Rf l b (aluT i (l.drop a)) i' a3 b3) : Rf l b (restU i (l.drop a) .alu) (i', []) a3 b3 := by
  have e : restU i (l.drop a) .alu = (aluT i (l.drop a)).map fun p => ((p.1, ([] : Nm)), p.2) := by
    unfold restU restT
    cases aluT i (l.drop a) <;> rfl
  rw [e]
  exact h.map fun x => (x, ([] : Nm))
theorem rf_neg {l : List Nm} {a a3 : Nat} {b b3 : Bool} {i : IV} {n : Int} (h : Rf l b (regT (l.drop a)) n a3 b3) : Rf l b (restU i (l.drop a) .neg) ({ i with dst := n }, []) a3 b3 := by
  have e : restU i (l.drop a) .neg = (regT (l.drop a)).map fun p => (({ i with dst := p.1 }, ([] : Nm)), p.2) := by
    unfold restU restT
    cases regT (l.drop a) <;> rfl
  rw [e]
  exact h.map fun x => (({ i with dst := x } : IV), ([] : Nm))
theorem rf_far {l : List Nm} {a a3 : Nat} {b b3 : Bool} {i : IV} {v : IV × Nm} (h : Rf l b (toU i (l.drop a)) v a3 b3) : Rf l b (restU i (l.drop a) .far) v a3 b3 := h
theorem rf_ask {l : List Nm} {a a1 a2 a3 : Nat} {b b1 b2 b3 : Bool} {i i' : IV} {v : IV × Nm} (h1 : Rf l b (aluT i (l.drop a)) i' a1 b1) (h2 : Rf l b1 (mustU [44] (l.drop a1)) () a2 b2) (h3 : Rf l b2 (toU i' (l.drop a2)) v a3 b3) : Rf l b (restU i (l.drop a) .ask) v a3 b3 := by
  have e : restU i (l.drop a) .ask = (aluT i (l.drop a)).bind fun p => (mustU [44] p.2).bind fun q => toU p.1 q.2 := by
    unfold restU restT toU
    cases aluT i (l.drop a) with
    | none => rfl
    | some p =>
      simp only [Option.bind_some]
      rw [mustU_bind]
      cases mustU [44] p.2 <;> rfl
  rw [e]
  exact h1.bind (f := fun p => (mustU [44] p.2).bind fun q => toU p.1 q.2) (h2.bind (f := fun q => toU i' q.2) h3)
theorem rf_load {l : List Nm} {a a1 a2 a3 : Nat} {b b1 b2 b3 : Bool} {i : IV} {n : Int} {v : Int × Int} (h1 : Rf l b (regT (l.drop a)) n a1 b1) (h2 : Rf l b1 (mustU [44] (l.drop a1)) () a2 b2) (h3 : Rf l b2 (cellU (l.drop a2)) v a3 b3) : Rf l b (restU i (l.drop a) .load) ({ i with dst := n, src := v.1, off := v.2 }, []) a3 b3 := by
  have e : restU i (l.drop a) .load = (regT (l.drop a)).bind fun p => (mustU [44] p.2).bind fun q => (cellU q.2).map fun r => (({ i with dst := p.1, src := r.1.1, off := r.1.2 }, ([] : Nm)), r.2) := by
    unfold restU restT cellU
    cases regT (l.drop a) with
    | none => rfl
    | some p =>
      simp only [Option.bind_some]
      rw [mustU_bind]
      cases mustU [44] p.2 with
      | none => rfl
      | some q =>
        simp only [Option.bind_some]
        cases cellT q.2 <;> rfl
  rw [e]
  exact h1.bind (f := fun p => (mustU [44] p.2).bind fun q => (cellU q.2).map fun r => (({ i with dst := p.1, src := r.1.1, off := r.1.2 }, ([] : Nm)), r.2)) (h2.bind (f := fun q => (cellU q.2).map fun r => (({ i with dst := n, src := r.1.1, off := r.1.2 }, ([] : Nm)), r.2)) (h3.map fun x => (({ i with dst := n, src := x.1, off := x.2 } : IV), ([] : Nm))))
theorem rf_put {l : List Nm} {a a1 a2 a3 : Nat} {b b1 b2 b3 : Bool} {i i' : IV} {v : Int × Int} (h1 : Rf l b (cellU (l.drop a)) v a1 b1) (h2 : Rf l b1 (mustU [44] (l.drop a1)) () a2 b2) (h3 : Rf l b2 (secT { i with dst := v.1, off := v.2 } (l.drop a2)) i' a3 b3) : Rf l b (restU i (l.drop a) .put) (i', []) a3 b3 := by
  have e : restU i (l.drop a) .put = (cellU (l.drop a)).bind fun p => (mustU [44] p.2).bind fun q => (secT { i with dst := p.1.1, off := p.1.2 } q.2).map fun r => ((r.1, ([] : Nm)), r.2) := by
    unfold restU restT cellU
    cases cellT (l.drop a) with
    | none => rfl
    | some p =>
      simp only [Option.bind_some, Option.map_some]
      rw [mustU_bind]
      cases mustU [44] p.2.2 with
      | none => rfl
      | some q =>
        simp only [Option.bind_some]
        cases secT { i with dst := p.1, off := p.2.1 } q.2 <;> rfl
  rw [e]
  exact h1.bind (f := fun p => (mustU [44] p.2).bind fun q => (secT { i with dst := p.1.1, off := p.1.2 } q.2).map fun r => ((r.1, ([] : Nm)), r.2)) (h2.bind (f := fun q => (secT { i with dst := v.1, off := v.2 } q.2).map fun r => ((r.1, ([] : Nm)), r.2)) (h3.map fun x => (x, ([] : Nm))))
theorem rf_exit {l : List Nm} {a : Nat} {b : Bool} {i : IV} (ha : a ≤ l.length) : Rf l b (restU i (l.drop a) .exit) (i, []) a b := ⟨fun e => ⟨e, ha, rfl⟩, fun e _ => e⟩
/-- A whole line's instruction. -/
theorem rf_inst {l : List Nm} {s0 : Nm} {t : List Nm} (hl : l = s0 :: t) {i : IV} {k : Kind} (hw : wayP s0 = some (i, k)) {v : IV × Nm} {a' : Nat} {b' : Bool} (h : Rf l false (restU i (l.drop 1) k) v a' b') : ((b' || decide (a' ≠ l.length)) = false → instP l = some v) ∧ ((b' || decide (a' ≠ l.length)) = true → instP l = none) := by
  subst hl
  have e1 : (s0 :: t).drop 1 = t := rfl
  rw [e1] at h
  have hI : instP (s0 :: t) = match restT i t k with | some (i', to, []) => some (i', to) | _ => none := by first | (simp only [instP, hw]; rfl) | simp only [instP, hw]
  constructor
  · intro hb
    simp at hb
    obtain ⟨hb, ha⟩ := hb
    obtain ⟨_, _, hr⟩ := h.ok hb
    unfold restU at hr
    obtain ⟨p, hp, e⟩ := Option.map_eq_some_iff.1 hr
    obtain ⟨p1, p2, p3⟩ := p
    simp only at e
    have e3 : p3 = [] := by
      have := congrArg Prod.snd e
      simp only at this
      rw [this]
      exact List.drop_eq_nil_of_le (by simp [ha])
    have e4 : (p1, p2) = v := congrArg Prod.fst e
    rw [hI, hp, e3, ← e4]
  · intro hb
    rw [hI]
    cases hr : restT i t k with
    | none => rfl
    | some p =>
      obtain ⟨p1, p2, p3⟩ := p
      have hbf := h.no rfl (by unfold restU; rw [hr]; rfl)
      obtain ⟨_, h2, h3⟩ := h.ok hbf
      rw [hbf] at hb
      simp at hb
      unfold restU at h3
      rw [hr] at h3
      simp only [Option.map_some, Option.some.injEq, Prod.mk.injEq] at h3
      cases p3 with
      | cons c r => rfl
      | nil =>
        exfalso
        have := congrArg List.length h3.2
        simp at this
        simp at h2 hb
        omega
theorem inst_unknown {l : List Nm} {s0 : Nm} {t : List Nm} (hl : l = s0 :: t) (hw : wayP s0 = none) : instP l = none := by
  subst hl
  simp only [instP, hw]
end Go.Proofs.YtjebjninlejoeaaGreatDoor
namespace Go.Proofs.YtjebjninlejoeaaGreatDoor
set_option linter.unusedVariables false
set_option linter.unusedSimpArgs false

def wordsL : List Nm := ops ++ [[], [], []] ++ qus
def opsL : List (Nm × Int × Bool) := wordsL.zipIdx.flatMap fun p => if p.1 = [] then [] else [(p.1, (p.2 : Int) + 1, false), (p.1 ++ n32, (p.2 : Int) + 1, true)]
/-- A word's operator, and whether it is narrow; 0: it is none. -/
def opR (s : Nm) : Int × Bool := ((opsL.find? fun p => decide (p.1 = s)).map (·.2)).getD (0, false)
def sizesL (w : Nm) : List (Nm × Int) := [(w ++ [49], 1), (w ++ [50], 2), (w ++ [52], 4), (w ++ [56], 8)]
/-- A word's size, if it begins so; 0: none. -/
def sizedR (s w : Nm) : Int := (((sizesL w).find? fun p => decide (p.1 = s)).map (·.2)).getD 0
def kindOf (op : Int) : Kind := if op = 13 then .neg else if 17 ≤ op then .ask else .alu
theorem ops_ways : ∀ p ∈ opsL, wayP p.1 = some ({ iv0 p.2.1 with narrow := p.2.2 }, kindOf p.2.1) ∧ ((1 ≤ p.2.1 ∧ p.2.1 ≤ 13) ∨ (17 ≤ p.2.1 ∧ p.2.1 ≤ 27)) := by decide +kernel
theorem ways_mem : ∀ q ∈ ways, (∃ p ∈ opsL, p.1 = q.1) ∨ (∃ p ∈ sizesL loadW, p.1 = q.1) ∨ (∃ p ∈ sizesL putW, p.1 = q.1) ∨ q.1 = jumpW ∨ q.1 = exitW := by decide +kernel
theorem findR_none {α : Type} {l : List (Nm × α)} {s : Nm} (h : l.find? (fun p => decide (p.1 = s)) = none) : ¬ ∃ p ∈ l, p.1 = s := by
  rintro ⟨p, hp, e⟩
  have := List.find?_eq_none.1 h p hp
  simp [e] at this
theorem way_op {s : Nm} {k : Int} {nr : Bool} (h : opR s = (k, nr)) (hk : k ≠ 0) : wayP s = some ({ iv0 k with narrow := nr }, kindOf k) ∧ ((1 ≤ k ∧ k ≤ 13) ∨ (17 ≤ k ∧ k ≤ 27)) := by
  unfold opR at h
  cases hf : opsL.find? (fun p => decide (p.1 = s)) with
  | none => rw [hf] at h; simp at h; exact absurd h.1.symm hk
  | some p =>
    rw [hf] at h
    simp at h
    have hp := List.mem_of_find?_eq_some hf
    have he := List.find?_some hf
    simp at he
    have := ops_ways p hp
    rw [he, h] at this
    exact this
theorem opR_zero {s : Nm} {k : Int} {nr : Bool} (h : opR s = (k, nr)) (hk : k = 0) : nr = false ∧ ¬ ∃ p ∈ opsL, p.1 = s := by
  subst hk
  unfold opR at h
  cases hf : opsL.find? (fun p => decide (p.1 = s)) with
  | none => rw [hf] at h; simp at h; exact ⟨h, findR_none hf⟩
  | some p =>
    rw [hf] at h
    simp at h
    have := (ops_ways p (List.mem_of_find?_eq_some hf)).2
    rw [h] at this
    simp at this
theorem sized_some {s w : Nm} {z : Int} (h : sizedR s w = z) (hz : z ≠ 0) : (s = w ++ [49] ∧ z = 1) ∨ (s = w ++ [50] ∧ z = 2) ∨ (s = w ++ [52] ∧ z = 4) ∨ (s = w ++ [56] ∧ z = 8) := by
  unfold sizedR at h
  cases hf : (sizesL w).find? (fun p => decide (p.1 = s)) with
  | none => rw [hf] at h; simp at h; exact absurd h.symm hz
  | some p =>
    rw [hf] at h
    simp at h
    have hp := List.mem_of_find?_eq_some hf
    have he := List.find?_some hf
    simp at he
    simp only [sizesL, List.mem_cons, List.not_mem_nil, or_false] at hp
    rcases hp with rfl | rfl | rfl | rfl
    · exact .inl ⟨he.symm, h.symm⟩
    · exact .inr (.inl ⟨he.symm, h.symm⟩)
    · exact .inr (.inr (.inl ⟨he.symm, h.symm⟩))
    · exact .inr (.inr (.inr ⟨he.symm, h.symm⟩))
theorem sized_zero {s w : Nm} (h : sizedR s w = 0) : ¬ ∃ p ∈ sizesL w, p.1 = s := by
  unfold sizedR at h
  cases hf : (sizesL w).find? (fun p => decide (p.1 = s)) with
  | none => exact findR_none hf
  | some p =>
    rw [hf] at h
    simp at h
    have hp := List.mem_of_find?_eq_some hf
    simp only [sizesL, List.mem_cons, List.not_mem_nil, or_false] at hp
    rcases hp with rfl | rfl | rfl | rfl <;> simp at h
theorem way_loadR {s : Nm} {z : Int} (h : sizedR s loadW = z) (hz : z ≠ 0) : wayP s = some ({ iv0 14 with size := z }, .load) := by
  rcases sized_some h hz with ⟨rfl, rfl⟩ | ⟨rfl, rfl⟩ | ⟨rfl, rfl⟩ | ⟨rfl, rfl⟩ <;> decide +kernel
theorem way_putR {s : Nm} {z : Int} (h : sizedR s putW = z) (hz : z ≠ 0) : wayP s = some ({ iv0 15 with size := z }, .put) := by
  rcases sized_some h hz with ⟨rfl, rfl⟩ | ⟨rfl, rfl⟩ | ⟨rfl, rfl⟩ | ⟨rfl, rfl⟩ <;> decide +kernel
theorem way_jump : wayP jumpW = some (iv0 16, .far) := by decide +kernel
theorem way_exit : wayP exitW = some (iv0 28, .exit) := by decide +kernel
theorem way_none {s : Nm} (h1 : ¬ ∃ p ∈ opsL, p.1 = s) (h2 : sizedR s loadW = 0) (h3 : sizedR s putW = 0) (h4 : s ≠ jumpW) (h5 : s ≠ exitW) : wayP s = none := by
  unfold wayP
  cases hf : ways.find? (fun p => decide (p.1 = s)) with
  | none => rfl
  | some q =>
    exfalso
    have hq := List.mem_of_find?_eq_some hf
    have he := List.find?_some hf
    simp at he
    rcases ways_mem q hq with h | h | h | h | h
    · rw [he] at h; exact h1 h
    · rw [he] at h; exact sized_zero h2 h
    · rw [he] at h; exact sized_zero h3 h
    · exact h4 (he.symm.trans h)
    · exact h5 (he.symm.trans h)
/-- Words that were gone through, none of which it is. -/
theorem opR_at {s : Nm} {k : Nat} {w : Nm} (hk : wordsL[k]? = some w) (hw : w ≠ []) (h : s = w ∨ s = w ++ n32) (hno : ∀ j, j < k → ∀ v, wordsL[j]? = some v → v ≠ [] → s ≠ v ∧ s ≠ v ++ n32) (h0 : s = w → True) : opR s = ((k : Int) + 1, decide (s ≠ w)) := by
  have hlt : k < 27 := (List.getElem?_eq_some_iff.1 hk).1
  have key : ∀ k : Fin 27, ∀ w, wordsL[k.val]? = some w → w ≠ [] → opR w = ((k.val : Int) + 1, false) ∧ opR (w ++ n32) = ((k.val : Int) + 1, true) ∧ w ++ n32 ≠ w := by
    intro k w hk hw
    have hall : ∀ k : Fin 27, wordsL[k.val]?.getD [] ≠ [] → opR (wordsL[k.val]?.getD []) = ((k.val : Int) + 1, false) ∧ opR (wordsL[k.val]?.getD [] ++ n32) = ((k.val : Int) + 1, true) := by decide +kernel
    have := hall k
    rw [hk] at this
    obtain ⟨a, b⟩ := this hw
    exact ⟨a, b, by intro e; have := congrArg List.length e; simp [n32] at this⟩
  obtain ⟨a, b, c⟩ := key ⟨k, hlt⟩ w hk hw
  rcases h with rfl | rfl
  · rw [a]; simp
  · rw [b]; simp [c]
theorem opR_none {s : Nm} (hno : ∀ j, j < 27 → ∀ v, wordsL[j]? = some v → v ≠ [] → s ≠ v ∧ s ≠ v ++ n32) : opR s = (0, false) := by
  unfold opR
  cases hf : opsL.find? (fun p => decide (p.1 = s)) with
  | none => rfl
  | some p =>
    exfalso
    have hp := List.mem_of_find?_eq_some hf
    have he := List.find?_some hf
    simp at he
    have hall : ∀ p ∈ opsL, ∃ j : Fin 27, wordsL[j.val]?.getD [] ≠ [] ∧ (p.1 = wordsL[j.val]?.getD [] ∨ p.1 = wordsL[j.val]?.getD [] ++ n32) := by decide +kernel
    obtain ⟨j, hj, hor⟩ := hall p hp
    have hs : wordsL[j.val]? = some (wordsL[j.val]'(by show j.val < 27; exact j.isLt)) := List.getElem?_eq_getElem _
    rw [hs] at hj hor
    simp only [Option.getD_some] at hj hor
    obtain ⟨n1, n2⟩ := hno j.val j.isLt _ hs hj
    rcases hor with e | e
    · exact n1 (he.symm.trans e)
    · exact n2 (he.symm.trans e)
end Go.Proofs.YtjebjninlejoeaaGreatDoor
