/- Instructions in memory, and when they are right: the plain law. -/
import Derived.Test.YtdhfdlelnkoomaaDoorProg
import Derived.WalkKit
import Derived.IntWalk
import Derived.Lib.Hide
import Derived.Deep.QuietTactic
import Derived.BigQuiet
import Derived.Deep.Draws
import Derived.Deep.Slices
import Derived.OpenShut
import Derived.Laws.AppendOwn
import Derived.ChangeArms
namespace Go.Proofs.YtdhfdlelnkoomaaDoor
open Go.RowKit
set_option linter.unusedVariables false
set_option maxRecDepth 100000

/-- An instruction of the machine of registers. -/
structure Ins where
  op : Int
  what : Int
  nar : Bool
  d : Int
  a : Int
  b : Int
  n : Int
  size : Int
  to : Int
  deriving DecidableEq, Inhabited
def insV (x : Ins) : List Value := [.int .u8 x.op, .int .u8 x.what, .bool x.nar, .int .i64 x.d, .int .i64 x.a, .int .i64 x.b, .int .u64 x.n, .int .i64 x.size, .int .i64 x.to]
def insA (x : Ins) : Value := .agg (insV x).toArray
/-- Instructions that lie at A, in blocks of K. -/
def Inss (w : World) (K : Nat → Prop) (A : Option Addr) (c : Nat) (xs : List Ins) : Prop :=
  (A = none → c = 0) ∧ xs.length ≤ c ∧ c ≤ maxLen ∧ (xs ≠ [] → ∃ a, A = some a ∧ K a.block ∧ ∀ i x, xs[i]? = some x → ∀ j, j < 9 → w.cell? ((a.add (i * 9)).add j) = (insV x)[j]?)
def regP (x : Int) : Bool := decide (0 ≤ x ∧ x ≤ 15)
def sizedP (s : Int) : Bool := s == 1 || s == 2 || s == 4 || s == 8
/-- Is an instruction right, at a place of so many? -/
def oneP (f : Ins) (i n : Int) : Bool :=
  if f.op = 1 then decide (f = { op := 1, what := 0, nar := false, d := f.d, a := 0, b := 0, n := f.n, size := 0, to := 0 }) && regP f.d
  else if f.op = 2 then decide (f = { op := 2, what := 0, nar := false, d := f.d, a := f.a, b := 0, n := 0, size := 0, to := 0 }) && (regP f.d && regP f.a)
  else if f.op = 3 then decide (f = { op := 3, what := f.what, nar := f.nar, d := f.d, a := f.a, b := f.b, n := 0, size := 0, to := 0 }) && (decide (1 ≤ f.what ∧ f.what ≤ 13) && ((regP f.d && (regP f.a && regP f.b)) && (f.what != 13 || f.b == 0)))
  else if f.op = 4 ∨ f.op = 5 then decide (f = { op := f.op, what := 0, nar := false, d := f.d, a := f.a, b := 0, n := f.n, size := f.size, to := 0 }) && ((regP f.d && regP f.a) && sizedP f.size)
  else if f.op = 6 then decide (f = { op := 6, what := 0, nar := false, d := 0, a := f.a, b := f.b, n := f.n, size := f.size, to := 0 }) && ((regP f.a && regP f.b) && sizedP f.size)
  else if f.op = 7 then decide (f = { op := 7, what := 0, nar := false, d := 0, a := 0, b := 0, n := 0, size := 0, to := f.to }) && decide (i < f.to ∧ f.to < n)
  else if f.op = 8 then decide (f = { op := 8, what := f.what, nar := f.nar, d := 0, a := f.a, b := f.b, n := 0, size := 0, to := f.to }) && (decide (17 ≤ f.what ∧ f.what ≤ 27) && ((regP f.a && regP f.b) && decide (i < f.to ∧ f.to < n)))
  else if f.op = 9 then decide (f = { op := 9, what := 0, nar := false, d := 0, a := f.a, b := 0, n := 0, size := 0, to := 0 }) && regP f.a
  else false
/-- Is a code right? -/
def rightP (l : List Ins) : Bool := decide (1 ≤ l.length ∧ l.length ≤ 16384) && ((l.getLast?.map Ins.op == some 9) && (List.range l.length).all fun i => oneP (l.getD i default) i l.length)
end Go.Proofs.YtdhfdlelnkoomaaDoor
