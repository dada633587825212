/- text, the plain law: tokens of a line, instructions, texts; no program in sight. -/
import Derived.WalkKit
namespace Go.Proofs.YtjebjninlejoeaaGreatDoor
set_option linter.unusedVariables false
set_option linter.unusedSimpArgs false

abbrev Nm := List UInt8
/-- An instruction. -/
structure IV where
  op : Int
  narrow : Bool
  dst : Int
  src : Int
  useImm : Bool
  off : Int
  imm : Int
  size : Int
  deriving Inhabited, DecidableEq
/-- One that is only a kind. -/
def iv0 (op : Int) : IV := ⟨op, false, 0, 0, false, 0, 0, 0⟩
def wordC (c : UInt8) : Bool := (decide (97 ≤ c) && decide (c ≤ 122)) || (decide (48 ≤ c) && decide (c ≤ 57)) || decide (c = 95)
def signC (c : UInt8) : Bool := decide (c = 44) || decide (c = 91) || decide (c = 93) || decide (c = 43) || decide (c = 45) || decide (c = 58)
def blankC (c : UInt8) : Bool := decide (c = 9) || decide (c = 13) || decide (c = 32)
def digitC (c : UInt8) : Bool := decide (48 ≤ c) && decide (c ≤ 57)
/-- A word that has been read, ahead of what comes. -/
def flush (cur : Nm) (r : Option (List Nm)) : Option (List Nm) := if cur = [] then r else r.map (cur :: ·)
/-- The tokens of a line; none: something in it is none. -/
def toksA : Nm → List UInt8 → Option (List Nm)
  | cur, [] => flush cur (some [])
  | cur, c :: s =>
    if c = 35 then flush cur (some [])
    else if wordC c then toksA (cur ++ [c]) s
    else if blankC c then flush cur (toksA [] s)
    else if signC c then flush cur ((toksA [] s).map ([c] :: ·))
    else none
def toks (s : List UInt8) : Option (List Nm) := toksA [] s
/-- A number's digits. -/
def numV (s : Nm) : Nat := s.foldl (fun n c => 10 * n + (c.toNat - 48)) 0
def numP (s : Nm) : Option Int := if s.all digitC && decide (1 ≤ s.length) && decide (s.length ≤ 10) && (decide (s.length = 1) || decide (s.head? ≠ some 48)) then some (numV s) else none
/-- A register's name: r0 to r10. -/
def regNs : List Nm := [[114, 48], [114, 49], [114, 50], [114, 51], [114, 52], [114, 53], [114, 54], [114, 55], [114, 56], [114, 57], [114, 49, 48]]
def regP (s : Nm) : Option Int := (regNs.idxOf? s).map fun (n : Nat) => (n : Int)
def labelP (s : Nm) : Bool := match s with | [] => false | c :: t => decide ((c :: t).length ≤ 30) && decide (97 ≤ c) && decide (c ≤ 122)
/-- What comes behind a word. -/
inductive Kind where
  | alu | neg | ask | load | put | far | exit
  deriving Inhabited, DecidableEq
def ops : List Nm := [[97, 100, 100], [115, 117, 98], [109, 117, 108], [100, 105, 118], [109, 111, 100], [97, 110, 100], [111, 114], [120, 111, 114], [115, 104, 108], [115, 104, 114], [115, 97, 114], [109, 111, 118], [110, 101, 103]]
def qus : List Nm := [[106, 101, 113], [106, 110, 101], [106, 103, 116], [106, 103, 101], [106, 108, 116], [106, 108, 101], [106, 115, 103, 116], [106, 115, 103, 101], [106, 115, 108, 116], [106, 115, 108, 101], [106, 115, 101, 116]]
def loadW : Nm := [108, 111, 97, 100]
def putW : Nm := [112, 117, 116]
def jumpW : Nm := [106, 117, 109, 112]
def exitW : Nm := [101, 120, 105, 116]
def n32 : Nm := [51, 50]
def both (k : Nat) (s : Nm) (q : Kind) : List (Nm × (IV × Kind)) := [(s, (iv0 k, q)), (s ++ n32, ({ iv0 k with narrow := true }, q))]
/-- All words, and what they begin. -/
def ways : List (Nm × (IV × Kind)) :=
  (ops.zipIdx.flatMap fun p => both (p.2 + 1) p.1 (if p.2 = 12 then .neg else .alu)) ++ (qus.zipIdx.flatMap fun p => both (p.2 + 17) p.1 .ask)
  ++ ([(49, 1), (50, 2), (52, 4), (56, 8)].flatMap fun (p : UInt8 × Int) => [(loadW ++ [p.1], ({ iv0 14 with size := p.2 }, .load)), (putW ++ [p.1], ({ iv0 15 with size := p.2 }, .put))])
  ++ [(jumpW, (iv0 16, .far)), (exitW, (iv0 28, .exit))]
def wayP (s : Nm) : Option (IV × Kind) := (ways.find? fun p => decide (p.1 = s)).map (·.2)
def mustP (x : Nm) : List Nm → Option (List Nm)
  | [] => none
  | s :: t => if s = x then some t else none
def regT : List Nm → Option (Int × List Nm)
  | [] => none
  | s :: t => (regP s).map (·, t)
def numT : List Nm → Option (Int × List Nm)
  | [] => none
  | s :: t => (numP s).map (·, t)
def signT : List Nm → Option (Int × List Nm)
  | [] => none
  | s :: t => if s = [43] then numT t else if s = [45] then (numT t).map (fun p => (-p.1, p.2)) else none
def secT (i : IV) : List Nm → Option (IV × List Nm)
  | [] => none
  | s :: t => match regP s with
    | some n => some ({ i with src := n }, t)
    | none => if s = [45] then (numT t).map (fun p => ({ i with useImm := true, imm := -p.1 }, p.2)) else (numP s).map fun n => ({ i with useImm := true, imm := n }, t)
/-- A cell: its register, its place. -/
def cellT (l : List Nm) : Option (Int × Int × List Nm) :=
  (mustP [91] l).bind fun l => (regT l).bind fun p => (signT p.2).bind fun q => (mustP [93] q.2).map fun l => (p.1, q.1, l)
def toT (i : IV) : List Nm → Option (IV × Nm × List Nm)
  | [] => none
  | s :: t => if labelP s then some (i, s, t) else (signT (s :: t)).map fun p => ({ i with off := p.1 }, [], p.2)
def aluT (i : IV) (l : List Nm) : Option (IV × List Nm) :=
  (regT l).bind fun p => (mustP [44] p.2).bind fun l => secT { i with dst := p.1 } l
/-- The rest of a line; the label that a jump names. -/
def restT (i : IV) (l : List Nm) : Kind → Option (IV × Nm × List Nm)
  | .alu => (aluT i l).map fun p => (p.1, [], p.2)
  | .neg => (regT l).map fun p => ({ i with dst := p.1 }, [], p.2)
  | .ask => (aluT i l).bind fun p => (mustP [44] p.2).bind fun l => toT p.1 l
  | .load => (regT l).bind fun p => (mustP [44] p.2).bind fun l => (cellT l).map fun q => ({ i with dst := p.1, src := q.1, off := q.2.1 }, [], q.2.2)
  | .put => (cellT l).bind fun q => (mustP [44] q.2.2).bind fun l => (secT { i with dst := q.1, off := q.2.1 } l).map fun p => (p.1, [], p.2)
  | .far => toT i l
  | .exit => some (i, [], l)
/-- An instruction's line. -/
def instP : List Nm → Option (IV × Nm)
  | [] => none
  | s :: t => match wayP s with
    | none => none
    | some (i, k) => match restT i t k with
      | some (i', to, []) => some (i', to)
      | _ => none
def inI (n a b : Int) : Bool := decide (a ≤ n) && decide (n ≤ b)
def secR (i : IV) : Bool := if i.useImm then decide (i.src = 0) && inI i.imm (-2147483648) 2147483647 else inI i.src 0 10 && decide (i.imm = 0)
def farR (i : IV) : Bool := inI i.off (-32768) 32767
def sizeR (i : IV) : Bool := decide (i.size = 1) || decide (i.size = 2) || decide (i.size = 4) || decide (i.size = 8)
/-- Is an instruction right? -/
def rightP (i : IV) : Bool :=
  if 1 ≤ i.op ∧ i.op ≤ 12 then inI i.dst 0 9 && secR i && decide (i.off = 0) && decide (i.size = 0)
  else if i.op = 13 then inI i.dst 0 9 && decide (i = { iv0 13 with narrow := i.narrow, dst := i.dst })
  else if i.op = 14 then inI i.dst 0 9 && inI i.src 0 10 && farR i && sizeR i && decide (i = { iv0 14 with dst := i.dst, src := i.src, off := i.off, size := i.size })
  else if i.op = 15 then inI i.dst 0 10 && farR i && sizeR i && secR i && !i.narrow
  else if i.op = 16 then farR i && decide (i = { iv0 16 with off := i.off })
  else if 17 ≤ i.op ∧ i.op ≤ 27 then inI i.dst 0 10 && farR i && secR i && decide (i.size = 0)
  else decide (i = iv0 28)
/-- A jump to a label. -/
structure Jmp where
  at_ : Nat
  line : Nat
  to : Nm
  deriving Inhabited, DecidableEq
structure PS where
  out : List IV
  jumps : List Jmp
  marks : List (Nm × Nat)
  deriving Inhabited
def markT (t : List Nm) : Option Nm := match t with | [a, b] => if b = [58] ∧ labelP a = true then some a else none | _ => none
def hasM (l : List (Nm × Nat)) (s : Nm) : Option Nat := (l.find? fun p => decide (p.1 = s)).map (·.2)
/-- A line. -/
def stepP (st : PS) (n : Nat) (s : List UInt8) : Except (Int × Nat) PS :=
  match toks s with
  | none => .error (120, n)
  | some [] => .ok st
  | some t => match markT t with
    | some a => match hasM st.marks a with
      | some _ => .error (121, n)
      | none => .ok { st with marks := st.marks ++ [(a, st.out.length)] }
    | none => match instP t with
      | none => .error (120, n)
      | some (i, to) => if rightP i then
          if st.out.length = 4096 then .error (3, n)
          else .ok { st with out := st.out ++ [i], jumps := if to = [] then st.jumps else st.jumps ++ [⟨st.out.length, n, to⟩] }
        else .error (120, n)
def runP : PS → Nat → List (List UInt8) → Except (Int × Nat) PS
  | st, _, [] => .ok st
  | st, n, s :: ss => match stepP st n s with | .error e => .error e | .ok st' => runP st' (n + 1) ss
/-- Jumps land. -/
def landP (marks : List (Nm × Nat)) : List IV → List Jmp → Except (Int × Nat) (List IV)
  | out, [] => .ok out
  | out, j :: js => match hasM marks j.to with
    | none => .error (121, j.line)
    | some at_ => if inI ((at_ : Int) - j.at_ - 1) (-32768) 32767 then landP marks (out.modify j.at_ fun i => { i with off := (at_ : Int) - j.at_ - 1 }) js else .error (121, j.line)
/-- A text's lines. -/
def linesA : Nm → List UInt8 → List (List UInt8)
  | cur, [] => [cur]
  | cur, c :: s => if c = 10 then cur :: linesA [] s else linesA (cur ++ [c]) s
def linesP (s : List UInt8) : List (List UInt8) := linesA [] s
def ps0 : PS := ⟨[], [], []⟩
def parseP (s : List UInt8) : Except (Int × Nat) (List IV) :=
  if 262144 < s.length then .error (3, 0) else match runP ps0 1 (linesP s) with | .error e => .error e | .ok st => landP st.marks st.out st.jumps
end Go.Proofs.YtjebjninlejoeaaGreatDoor
