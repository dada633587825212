/- Instructions in memory, and when they are right: the plain law. bare, regs. Two instructions compared. The kinds of an instruction, each method. The kinds that load and write. The kinds that load and write. -/
import Derived.Test.YtbfegghkipoppaaProg
import Derived.WalkKit
import Derived.IntWalk
import Derived.Lib.Hide
import Derived.Deep.QuietTactic
import Derived.BigQuiet
import Derived.Deep.Draws
import Derived.Deep.Slices
import Derived.OpenShut
import Derived.Laws.AppendOwn
import Derived.ChangeArms
import Derived.Laws.StructEq
import Derived.RegionTactic
import Derived.ChangeAlike
import Derived.Outline
import Derived.BigRegion
namespace Go.Proofs.Ytbfegghkipoppaa
open Go.RowKit
set_option linter.unusedVariables false
set_option maxRecDepth 100000

/-- An instruction of the machine of registers. -/
structure Ins where
  op : Int
  what : Int
  nar : Bool
  d : Int
  a : Int
  b : Int
  n : Int
  size : Int
  to : Int
  deriving DecidableEq, Inhabited
def insV (x : Ins) : List Value := [.int .u8 x.op, .int .u8 x.what, .bool x.nar, .int .i64 x.d, .int .i64 x.a, .int .i64 x.b, .int .u64 x.n, .int .i64 x.size, .int .i64 x.to]
def insA (x : Ins) : Value := .agg (insV x).toArray
/-- Instructions that lie at A, in blocks of K. -/
def Inss (w : World) (K : Nat → Prop) (A : Option Addr) (c : Nat) (xs : List Ins) : Prop :=
  (A = none → c = 0) ∧ xs.length ≤ c ∧ c ≤ maxLen ∧ (xs ≠ [] → ∃ a, A = some a ∧ K a.block ∧ ∀ i x, xs[i]? = some x → ∀ j, j < 9 → w.cell? ((a.add (i * 9)).add j) = (insV x)[j]?)
def regP (x : Int) : Bool := decide (0 ≤ x ∧ x ≤ 15)
def sizedP (s : Int) : Bool := s == 1 || s == 2 || s == 4 || s == 8
/-- Is an instruction right, at a place of so many? -/
def oneP (f : Ins) (i n : Int) : Bool :=
  if f.op = 1 then decide (f = { op := 1, what := 0, nar := false, d := f.d, a := 0, b := 0, n := f.n, size := 0, to := 0 }) && regP f.d
  else if f.op = 2 then decide (f = { op := 2, what := 0, nar := false, d := f.d, a := f.a, b := 0, n := 0, size := 0, to := 0 }) && (regP f.d && regP f.a)
  else if f.op = 3 then decide (f = { op := 3, what := f.what, nar := f.nar, d := f.d, a := f.a, b := f.b, n := 0, size := 0, to := 0 }) && (decide (1 ≤ f.what ∧ f.what ≤ 13) && ((regP f.d && (regP f.a && regP f.b)) && (f.what != 13 || f.b == 0)))
  else if f.op = 4 ∨ f.op = 5 then decide (f = { op := f.op, what := 0, nar := false, d := f.d, a := f.a, b := 0, n := f.n, size := f.size, to := 0 }) && ((regP f.d && regP f.a) && sizedP f.size)
  else if f.op = 6 then decide (f = { op := 6, what := 0, nar := false, d := 0, a := f.a, b := f.b, n := f.n, size := f.size, to := 0 }) && ((regP f.a && regP f.b) && sizedP f.size)
  else if f.op = 7 then decide (f = { op := 7, what := 0, nar := false, d := 0, a := 0, b := 0, n := 0, size := 0, to := f.to }) && decide (i < f.to ∧ f.to < n)
  else if f.op = 8 then decide (f = { op := 8, what := f.what, nar := f.nar, d := 0, a := f.a, b := f.b, n := 0, size := 0, to := f.to }) && (decide (17 ≤ f.what ∧ f.what ≤ 27) && ((regP f.a && regP f.b) && decide (i < f.to ∧ f.to < n)))
  else if f.op = 9 then decide (f = { op := 9, what := 0, nar := false, d := 0, a := f.a, b := 0, n := 0, size := 0, to := 0 }) && regP f.a
  else false
/-- Is a code right? -/
def rightP (l : List Ins) : Bool := decide (1 ≤ l.length ∧ l.length ≤ 16384) && ((l.getLast?.map Ins.op == some 9) && (List.range l.length).all fun i => oneP (l.getD i default) i l.length)
end Go.Proofs.Ytbfegghkipoppaa
namespace Go.Proofs.Ytbfegghkipoppaa
open Go.RowKit
set_option linter.unusedVariables false
set_option maxRecDepth 100000

def plV (f : Ins) (i n : Int) : List Value := insV f ++ [.int .i64 i, .int .i64 n]
def plA (f : Ins) (i n : Int) : Value := .agg (plV f i n).toArray
def bareI (f : Ins) : Ins := { op := f.op, what := 0, nar := false, d := 0, a := 0, b := 0, n := 0, size := 0, to := 0 }
theorem bare_any (f : Ins) (i n : Int) (w : World) : Calls Try.prog 61 #[plA f i n] w fun e w' => e = .returned (insA (bareI f)) ∧ Below w.heap.size w w' := by
  unfold plA plV insV
  go_enter Try.func61, Try.ntmps61
  go_wp2_with fail
  exact bodyPost_ret (v := insA (bareI f)) (by simp [results, Try.results61, go_sem, insA, insV, bareI]) rfl ⟨rfl, ((Below.refl _ _).alloc (Nat.le_refl _) _).alloc (by simp) _⟩
theorem regs_any (l : List Int) (a : Addr) (c : Nat) (w : World) (hc : ∀ j z, l[j]? = some z → w.cell? (a.add j) = some (.int .i64 z)) (hl : l.length ≤ 100) (hlc : l.length ≤ c) :
    Calls Try.prog 62 #[.slice (some a) l.length c] w fun e w' => e = .returned (.bool (l.all regP)) ∧ w = w' := by
  go_enter Try.func62, Try.ntmps62
  go_wp2_with fail
  go_loop [7] (fun v => ∃ k : Nat, k ≤ l.length ∧ v = .int .i64 k ∧ Hid (∀ j z, j < k → l[j]? = some z → regP z = true)) (fun v => l.length - (intOf v).toNat)
  case atStart => exact ⟨0, Nat.zero_le _, rfl, fun j z hj => absurd hj (by omega)⟩
  case round =>
    obtain ⟨k, hk, rfl, hA⟩ := hrel
    by_cases hlt : k < l.length
    · have d1 : decide ((k : Int) < (l.length : Int)) = true := decide_eq_true (by omega)
      have hz := List.getElem?_eq_getElem hlt
      generalize l[k] = z at hz
      have ck := hc k z hz
      have HZ := Lib.hid hz
      have HC := Lib.hid hc
      clear hz hc
      by_cases hr : regP z = true
      · have hr' : 0 ≤ z ∧ z ≤ 15 := by simpa [regP] using hr
        obtain ⟨r1, r2⟩ := hr'
        have e1 : decide (z < 0) = false := decide_eq_false (by omega)
        have e2 : decide (15 < z) = false := decide_eq_false (by omega)
        have HR := Lib.hid hr
        clear hr
        go_wp2_with fail
        go_round
        case rel => exact ⟨k + 1, by omega, by go_num, Lib.hid (fun j y hj hy => by rcases Nat.lt_or_ge j k with h | h; (exact hA.out j y h hy); (obtain rfl : j = k := by omega); rw [HZ.out] at hy; injection hy with hy; rw [← hy]; exact HR.out)⟩
        case measure => simp [intOf]; omega
      · have HF : Hid (l.all regP = false) := Lib.hid (by
          rw [List.all_eq_false]
          exact ⟨z, List.mem_of_getElem? HZ.out, hr⟩)
        have hr' : z < 0 ∨ 15 < z := by simp [regP] at hr; omega
        clear hr
        by_cases h0 : z < 0
        · have e1 : decide (z < 0) = true := decide_eq_true h0
          go_wp2_with fail
          go_ret
          exact ⟨by rw [HF.out]; rfl, rfl⟩
        · have e1 : decide (z < 0) = false := decide_eq_false h0
          have e2 : decide (15 < z) = true := decide_eq_true (by omega)
          go_wp2_with fail
          go_ret
          exact ⟨by rw [HF.out]; rfl, rfl⟩
    · have d1 : decide ((k : Int) < (l.length : Int)) = false := decide_eq_false (by omega)
      go_wp2_with fail
      go_ret
      refine ⟨?_, rfl⟩
      have : l.all regP = true := by
        rw [List.all_eq_true]
        intro z hz
        obtain ⟨j, hj⟩ := List.mem_iff_getElem?.1 hz
        exact hA.out j z (by have := (List.getElem?_eq_some_iff.1 hj).1; omega) hj
      rw [this]; rfl
end Go.Proofs.Ytbfegghkipoppaa
namespace Go.Proofs.Ytbfegghkipoppaa
open Go.RowKit
set_option linter.unusedVariables false
set_option maxRecDepth 100000

/-- Are two instructions the same? -/
def insE (x y : Ins) : Bool := decide (x = y)
theorem eql_ins (a1 a2 : Int) (a3 : Bool) (a4 a5 a6 a7 a8 a9 b1 b2 : Int) (b3 : Bool) (b4 b5 b6 b7 b8 b9 : Int) (w : World) :
    (binOp .eql 40 (.agg #[.int .u8 a1, .int .u8 a2, .bool a3, .int .i64 a4, .int .i64 a5, .int .i64 a6, .int .u64 a7, .int .i64 a8, .int .i64 a9]) (.agg #[.int .u8 b1, .int .u8 b2, .bool b3, .int .i64 b4, .int .i64 b5, .int .i64 b6, .int .u64 b7, .int .i64 b8, .int .i64 b9])).run Try.prog w = .ok (.bool (insE ⟨a1, a2, a3, a4, a5, a6, a7, a8, a9⟩ ⟨b1, b2, b3, b4, b5, b6, b7, b8, b9⟩)) w := by
  have he : insE ⟨a1, a2, a3, a4, a5, a6, a7, a8, a9⟩ ⟨b1, b2, b3, b4, b5, b6, b7, b8, b9⟩ = ((a1 == b1) && ((a2 == b2) && ((a3 == b3) && ((a4 == b4) && ((a5 == b5) && ((a6 == b6) && ((a7 == b7) && ((a8 == b8) && (a9 == b9))))))))) := by
    unfold insE
    rw [Bool.eq_iff_iff]
    simp
  rw [he]
  rw [run_eql_struct]
  have h1 : Try.prog.underlying 40 = some (.struct (Try.prog.fieldsOf 40)) := by kernel_rfl
  have h2 : Try.prog.stoodInHeld 40 = false := by kernel_rfl
  rw [run_equalIn_struct w 9999 40 _ _ h1 h2]
  simp [go_sem, Program.fieldsOf, Op.eqFields]
  repeat' split
  all_goals simp_all
theorem insE_t {x y : Ins} (h : x = y) : insE x y = true := decide_eq_true h
theorem insE_f {x y : Ins} (h : x ≠ y) : insE x y = false := decide_eq_false h
end Go.Proofs.Ytbfegghkipoppaa
namespace Go.Proofs.Ytbfegghkipoppaa
open Go.RowKit
set_option linter.unusedVariables false
set_option maxRecDepth 100000
theorem new2 (w : World) (A B : Obj) : (((w.alloc A).alloc B).drew).heap[w.heap.size + 1]? = some B := by
  have := heap_alloc_new (w.alloc A) B
  show ((w.alloc A).alloc B).heap[w.heap.size + 1]? = some B
  simpa using this
theorem new2n (w : World) (A B : Obj) : (((w.alloc A).alloc B)).heap[w.heap.size + 1]? = some B := new2 w A B
theorem regs_new (l : List Int) (g : Nat) (w : World) (hl : l.length ≤ 100) (hb : w.heap[g]? = some (.cells (l.map fun z => Value.int .i64 z).toArray 3 (0, 0))) :
    Calls Try.prog 62 #[.slice (some ⟨g, 0, none⟩) l.length l.length] w fun e w' => e = .returned (.bool (l.all regP)) ∧ w = w' := by
  refine regs_any l ⟨g, 0, none⟩ l.length w (fun j z hj => ?_) hl (Nat.le_refl _)
  have := (cell_of_row w g j _ _ _ hb)
  rw [List.getElem?_toArray, List.getElem?_map, hj] at this
  show w.cell? (Addr.add ⟨g, 0, none⟩ j) = _
  rw [show Addr.add ⟨g, 0, none⟩ j = ⟨g, j, none⟩ by unfold Addr.add; split <;> simp_all]
  exact this
def plC (f : Ins) (i n : Int) : Array Value := #[.int .u8 f.op, .int .u8 f.what, .bool f.nar, .int .i64 f.d, .int .i64 f.a, .int .i64 f.b, .int .u64 f.n, .int .i64 f.size, .int .i64 f.to, .int .i64 i, .int .i64 n]
theorem pl_keeps (f : Ins) (i n : Int) (w w1 : World) (hb : Below (w.alloc (.cells (plC f i n) 68 (0, 0))).heap.size (w.alloc (.cells (plC f i n) 68 (0, 0))) w1) :
    (∀ j u, (plC f i n)[j]? = some u → ∀ o, (w1.alloc o).cell? ⟨w.heap.size, j, none⟩ = some u) ∧ Below w.heap.size w w1 := by
  have bx : w1.heap[w.heap.size]? = some (.cells (plC f i n) 68 (0, 0)) := (hb.block _ (by simp)).trans (heap_alloc_new w _)
  have hz : w.heap.size + 1 ≤ w1.heap.size := by have := hb.size; simpa using this
  refine ⟨fun j u hu o => (World.cell?_of_block (heap_alloc_old w1 o (show w.heap.size < w1.heap.size by omega))).trans ((cell_of_row w1 _ j _ _ _ bx).trans hu), ?_⟩
  exact ((Below.refl _ _).alloc (Nat.le_refl _) _).trans (hb.mono (by simp))
attribute [local go_sem high] eql_ins
set_option maxHeartbeats 4000000 in
theorem set_pl (f : Ins) (i n : Int) (r : Bool) (hr : Hid (r = (insE { bareI f with d := f.d, n := f.n } f && [f.d].all regP))) (w : World) : Calls Try.prog 40 #[plA f i n] w fun e w' => e = .returned (.bool r) ∧ Below w.heap.size w w' := by
  have hcon := fun W => bare_any f i n W
  simp only [plA, plV, insV, insA, bareI, List.cons_append, List.nil_append] at hcon
  unfold plA plV insV
  go_enter Try.func40, Try.ntmps40
  go_wp2_with fail
  refine (hcon _).mono ?_
  rintro _ w1 ⟨rfl, hb⟩
  obtain ⟨cc, hB⟩ := pl_keeps f i n w w1 hb
  have HB := Lib.hid hB
  simp only [plC] at cc
  have e0 := cc 0 _ rfl
  have e1 := cc 1 _ rfl
  have e2 := cc 2 _ rfl
  have e3 := cc 3 _ rfl
  have e4 := cc 4 _ rfl
  have e5 := cc 5 _ rfl
  have e6 := cc 6 _ rfl
  have e7 := cc 7 _ rfl
  have e8 := cc 8 _ rfl
  have e9 := cc 9 _ rfl
  have e10 := cc 10 _ rfl
  clear cc hb hB hcon
  go_wp2_with fail
  go_region
  by_cases hf : ({ bareI f with d := f.d, n := f.n } : Ins) = f
  · have hE := insE_t (show ({ bareI f with d := f.d, n := f.n } : Ins) = ⟨f.op, f.what, f.nar, f.d, f.a, f.b, f.n, f.size, f.to⟩ from hf)
    have HF : Hid ((insE { bareI f with d := f.d, n := f.n } f && [f.d].all regP) = ([f.d].all regP)) := Lib.hid (by rw [insE_t hf]; rfl)
    clear hf
    simp only [bareI] at hE
    go_wp2_with fail
    refine (regs_new [f.d] _ _ (by simp) (new2 _ _ _)).mono ?_
    rintro _ w2 ⟨rfl, rfl⟩
    obtain ⟨q, hq⟩ : ∃ q, q = [f.d].all regP := ⟨_, rfl⟩
    have HQ := Lib.hid hq
    rw [← hq]
    clear hq
    have HV : Hid (r = q) := Lib.hid (by rw [hr.out, HF.out]; exact HQ.out.symm)
    go_wp2_with fail
    go_ret
    exact ⟨by rw [HV.out]; rfl, ((HB.out.alloc (by have := HB.out.size; omega) _).alloc (by have := HB.out.size; simp; omega) _).drew⟩
  · have hE := insE_f (show ({ bareI f with d := f.d, n := f.n } : Ins) ≠ ⟨f.op, f.what, f.nar, f.d, f.a, f.b, f.n, f.size, f.to⟩ from hf)
    have HF : Hid ((insE { bareI f with d := f.d, n := f.n } f && [f.d].all regP) = false) := Lib.hid (by rw [insE_f hf]; rfl)
    clear hf
    simp only [bareI] at hE
    go_wp2_with fail
    go_ret
    exact ⟨by rw [hr.out, HF.out]; rfl, (HB.out.alloc (by have := HB.out.size; omega) _).drew⟩
set_option maxHeartbeats 4000000 in
theorem move_pl (f : Ins) (i n : Int) (r : Bool) (hr : Hid (r = (insE { bareI f with d := f.d, a := f.a } f && [f.d, f.a].all regP))) (w : World) : Calls Try.prog 41 #[plA f i n] w fun e w' => e = .returned (.bool r) ∧ Below w.heap.size w w' := by
  have hcon := fun W => bare_any f i n W
  simp only [plA, plV, insV, insA, bareI, List.cons_append, List.nil_append] at hcon
  unfold plA plV insV
  go_enter Try.func41, Try.ntmps41
  go_wp2_with fail
  refine (hcon _).mono ?_
  rintro _ w1 ⟨rfl, hb⟩
  obtain ⟨cc, hB⟩ := pl_keeps f i n w w1 hb
  have HB := Lib.hid hB
  simp only [plC] at cc
  have e0 := cc 0 _ rfl
  have e1 := cc 1 _ rfl
  have e2 := cc 2 _ rfl
  have e3 := cc 3 _ rfl
  have e4 := cc 4 _ rfl
  have e5 := cc 5 _ rfl
  have e6 := cc 6 _ rfl
  have e7 := cc 7 _ rfl
  have e8 := cc 8 _ rfl
  have e9 := cc 9 _ rfl
  have e10 := cc 10 _ rfl
  clear cc hb hB hcon
  go_wp2_with fail
  go_region
  by_cases hf : ({ bareI f with d := f.d, a := f.a } : Ins) = f
  · have hE := insE_t (show ({ bareI f with d := f.d, a := f.a } : Ins) = ⟨f.op, f.what, f.nar, f.d, f.a, f.b, f.n, f.size, f.to⟩ from hf)
    have HF : Hid ((insE { bareI f with d := f.d, a := f.a } f && [f.d, f.a].all regP) = ([f.d, f.a].all regP)) := Lib.hid (by rw [insE_t hf]; rfl)
    clear hf
    simp only [bareI] at hE
    go_wp2_with fail
    refine (regs_new [f.d, f.a] _ _ (by simp) (new2 _ _ _)).mono ?_
    rintro _ w2 ⟨rfl, rfl⟩
    obtain ⟨q, hq⟩ : ∃ q, q = [f.d, f.a].all regP := ⟨_, rfl⟩
    have HQ := Lib.hid hq
    rw [← hq]
    clear hq
    have HV : Hid (r = q) := Lib.hid (by rw [hr.out, HF.out]; exact HQ.out.symm)
    go_wp2_with fail
    go_ret
    exact ⟨by rw [HV.out]; rfl, ((HB.out.alloc (by have := HB.out.size; omega) _).alloc (by have := HB.out.size; simp; omega) _).drew⟩
  · have hE := insE_f (show ({ bareI f with d := f.d, a := f.a } : Ins) ≠ ⟨f.op, f.what, f.nar, f.d, f.a, f.b, f.n, f.size, f.to⟩ from hf)
    have HF : Hid ((insE { bareI f with d := f.d, a := f.a } f && [f.d, f.a].all regP) = false) := Lib.hid (by rw [insE_f hf]; rfl)
    clear hf
    simp only [bareI] at hE
    go_wp2_with fail
    go_ret
    exact ⟨by rw [hr.out, HF.out]; rfl, (HB.out.alloc (by have := HB.out.size; omega) _).drew⟩
set_option maxHeartbeats 4000000 in
theorem end_pl (f : Ins) (i n : Int) (r : Bool) (hr : Hid (r = (insE { bareI f with a := f.a } f && [f.a].all regP))) (w : World) : Calls Try.prog 47 #[plA f i n] w fun e w' => e = .returned (.bool r) ∧ Below w.heap.size w w' := by
  have hcon := fun W => bare_any f i n W
  simp only [plA, plV, insV, insA, bareI, List.cons_append, List.nil_append] at hcon
  unfold plA plV insV
  go_enter Try.func47, Try.ntmps47
  go_wp2_with fail
  refine (hcon _).mono ?_
  rintro _ w1 ⟨rfl, hb⟩
  obtain ⟨cc, hB⟩ := pl_keeps f i n w w1 hb
  have HB := Lib.hid hB
  simp only [plC] at cc
  have e0 := cc 0 _ rfl
  have e1 := cc 1 _ rfl
  have e2 := cc 2 _ rfl
  have e3 := cc 3 _ rfl
  have e4 := cc 4 _ rfl
  have e5 := cc 5 _ rfl
  have e6 := cc 6 _ rfl
  have e7 := cc 7 _ rfl
  have e8 := cc 8 _ rfl
  have e9 := cc 9 _ rfl
  have e10 := cc 10 _ rfl
  clear cc hb hB hcon
  by_cases hf : ({ bareI f with a := f.a } : Ins) = f
  · have hE := insE_t (show ({ bareI f with a := f.a } : Ins) = ⟨f.op, f.what, f.nar, f.d, f.a, f.b, f.n, f.size, f.to⟩ from hf)
    have HF : Hid ((insE { bareI f with a := f.a } f && [f.a].all regP) = ([f.a].all regP)) := Lib.hid (by rw [insE_t hf]; rfl)
    clear hf
    simp only [bareI] at hE
    go_wp2_with fail
    refine (regs_new [f.a] _ _ (by simp) (new2n _ _ _)).mono ?_
    rintro _ w2 ⟨rfl, rfl⟩
    obtain ⟨q, hq⟩ : ∃ q, q = [f.a].all regP := ⟨_, rfl⟩
    have HQ := Lib.hid hq
    rw [← hq]
    clear hq
    have HV : Hid (r = q) := Lib.hid (by rw [hr.out, HF.out]; exact HQ.out.symm)
    go_wp2_with fail
    go_ret
    exact ⟨by rw [HV.out]; rfl, ((HB.out.alloc (by have := HB.out.size; omega) _).alloc (by have := HB.out.size; simp; omega) _)⟩
  · have hE := insE_f (show ({ bareI f with a := f.a } : Ins) ≠ ⟨f.op, f.what, f.nar, f.d, f.a, f.b, f.n, f.size, f.to⟩ from hf)
    have HF : Hid ((insE { bareI f with a := f.a } f && [f.a].all regP) = false) := Lib.hid (by rw [insE_f hf]; rfl)
    clear hf
    simp only [bareI] at hE
    go_wp2_with fail
    go_ret
    exact ⟨by rw [hr.out, HF.out]; rfl, (HB.out.alloc (by have := HB.out.size; omega) _)⟩
end Go.Proofs.Ytbfegghkipoppaa
namespace Go.Proofs.Ytbfegghkipoppaa
open Go.RowKit
set_option linter.unusedVariables false
set_option maxRecDepth 100000
attribute [local go_sem high] eql_ins
theorem sized_any (f : Ins) (i n : Int) (r : Bool) (hr : Hid (r = sizedP f.size)) (w : World) : Calls Try.prog 63 #[plA f i n] w fun e w' => e = .returned (.bool r) ∧ Below w.heap.size w w' := by
  unfold plA plV insV
  go_enter Try.func63, Try.ntmps63
  by_cases h1 : f.size = 1
  · have HV : Hid (r = true) := Lib.hid (by rw [hr.out, h1]; rfl)
    go_wp2_with fail
    go_ret
    exact ⟨by rw [HV.out]; rfl, (Below.refl _ _).alloc (Nat.le_refl _) _⟩
  by_cases h2 : f.size = 2
  · have HV : Hid (r = true) := Lib.hid (by rw [hr.out, h2]; rfl)
    go_wp2_with fail
    go_ret
    exact ⟨by rw [HV.out]; rfl, (Below.refl _ _).alloc (Nat.le_refl _) _⟩
  by_cases h4 : f.size = 4
  · have HV : Hid (r = true) := Lib.hid (by rw [hr.out, h4]; rfl)
    go_wp2_with fail
    go_ret
    exact ⟨by rw [HV.out]; rfl, (Below.refl _ _).alloc (Nat.le_refl _) _⟩
  by_cases h8 : f.size = 8
  · have HV : Hid (r = true) := Lib.hid (by rw [hr.out, h8]; rfl)
    go_wp2_with fail
    go_ret
    exact ⟨by rw [HV.out]; rfl, (Below.refl _ _).alloc (Nat.le_refl _) _⟩
  have HV : Hid (r = false) := Lib.hid (by rw [hr.out]; simp [sizedP, h1, h2, h4, h8])
  go_wp2_with fail
  go_ret
  exact ⟨by rw [HV.out]; rfl, (Below.refl _ _).alloc (Nat.le_refl _) _⟩
theorem far_any (f : Ins) (i n : Int) (r : Bool) (hr : Hid (r = decide (i < f.to ∧ f.to < n))) (w : World) : Calls Try.prog 64 #[plA f i n] w fun e w' => e = .returned (.bool r) ∧ Below w.heap.size w w' := by
  unfold plA plV insV
  go_enter Try.func64, Try.ntmps64
  by_cases h1 : i < f.to
  · have d1 : decide (i < f.to) = true := decide_eq_true h1
    by_cases h2 : f.to < n
    · have d2 : decide (f.to < n) = true := decide_eq_true h2
      have HV : Hid (r = true) := Lib.hid (by rw [hr.out]; simp [h1, h2])
      go_wp2_with fail
      go_ret
      exact ⟨by rw [HV.out]; rfl, (Below.refl _ _).alloc (Nat.le_refl _) _⟩
    · have d2 : decide (f.to < n) = false := decide_eq_false h2
      have HV : Hid (r = false) := Lib.hid (by rw [hr.out]; simp [h1, h2])
      go_wp2_with fail
      go_ret
      exact ⟨by rw [HV.out]; rfl, (Below.refl _ _).alloc (Nat.le_refl _) _⟩
  · have d1 : decide (i < f.to) = false := decide_eq_false h1
    have HV : Hid (r = false) := Lib.hid (by rw [hr.out]; simp [h1])
    go_wp2_with fail
    go_ret
    exact ⟨by rw [HV.out]; rfl, (Below.refl _ _).alloc (Nat.le_refl _) _⟩
end Go.Proofs.Ytbfegghkipoppaa
namespace Go.Proofs.Ytbfegghkipoppaa
open Go.RowKit
set_option linter.unusedVariables false
set_option maxRecDepth 100000
theorem pl_keeps2 (f : Ins) (i n : Int) (w w1 : World) (hb : Below (w.alloc (.cells (plC f i n) 68 (0, 0))).heap.size (w.alloc (.cells (plC f i n) 68 (0, 0))) w1) :
    (∀ j u, (plC f i n)[j]? = some u → w1.cell? ⟨w.heap.size, j, none⟩ = some u) ∧ Below w.heap.size w w1 := by
  have bx : w1.heap[w.heap.size]? = some (.cells (plC f i n) 68 (0, 0)) := (hb.block _ (by simp)).trans (heap_alloc_new w _)
  refine ⟨fun j u hu => (cell_of_row w1 _ j _ _ _ bx).trans hu, ?_⟩
  exact ((Below.refl _ _).alloc (Nat.le_refl _) _).trans (hb.mono (by simp))
theorem pl_lt (f : Ins) (i n : Int) (w w1 : World) (hb : Below (w.alloc (.cells (plC f i n) 68 (0, 0))).heap.size (w.alloc (.cells (plC f i n) 68 (0, 0))) w1) : w.heap.size < w1.heap.size := by
  have := hb.size; simp at this; omega
attribute [local go_sem high] eql_ins
set_option maxHeartbeats 4000000 in
theorem load_pl (f : Ins) (i n : Int) (r : Bool) (hr : Hid (r = (insE { bareI f with d := f.d, a := f.a, n := f.n, size := f.size } f && ([f.d, f.a].all regP && sizedP f.size)))) (w : World) : Calls Try.prog 43 #[plA f i n] w fun e w' => e = .returned (.bool r) ∧ Below w.heap.size w w' := by
  have hcon := fun W => bare_any f i n W
  simp only [plA, plV, insV, insA, bareI, List.cons_append, List.nil_append] at hcon
  unfold plA plV insV
  go_enter Try.func43, Try.ntmps43
  go_wp2_with fail
  refine (hcon _).mono ?_
  rintro _ w1 ⟨rfl, hb⟩
  obtain ⟨cc, hB⟩ := pl_keeps2 f i n w w1 hb
  have HB := Lib.hid hB
  simp only [plC] at cc
  have e0 := cc 0 _ rfl
  have e1 := cc 1 _ rfl
  have e2 := cc 2 _ rfl
  have e3 := cc 3 _ rfl
  have e4 := cc 4 _ rfl
  have e5 := cc 5 _ rfl
  have e6 := cc 6 _ rfl
  have e7 := cc 7 _ rfl
  have e8 := cc 8 _ rfl
  have e9 := cc 9 _ rfl
  have e10 := cc 10 _ rfl
  have z0 : w.heap.size < w1.heap.size := pl_lt f i n w w1 hb
  have z1 : w.heap.size < w1.heap.size + 1 := Nat.lt_succ_of_lt z0
  clear cc hb hB hcon
  go_wp2_with fail
  go_region
  by_cases hf : ({ bareI f with d := f.d, a := f.a, n := f.n, size := f.size } : Ins) = f
  · have hE := insE_t (show ({ bareI f with d := f.d, a := f.a, n := f.n, size := f.size } : Ins) = ⟨f.op, f.what, f.nar, f.d, f.a, f.b, f.n, f.size, f.to⟩ from hf)
    have HF : Hid ((insE { bareI f with d := f.d, a := f.a, n := f.n, size := f.size } f && ([f.d, f.a].all regP && sizedP f.size)) = (([f.d, f.a].all regP && sizedP f.size))) := Lib.hid (by rw [insE_t hf]; rfl)
    clear hf
    simp only [bareI] at hE
    go_wp2_with fail
    refine (regs_new [f.d, f.a] _ _ (by simp) (new2 _ _ _)).mono ?_
    rintro _ w2 ⟨rfl, rfl⟩
    obtain ⟨q, hq⟩ : ∃ q, q = [f.d, f.a].all regP := ⟨_, rfl⟩
    have HQ := Lib.hid hq
    rw [← hq]
    clear hq
    cases q
    · have HV : Hid (r = false) := Lib.hid (by rw [hr.out, HF.out, ← HQ.out]; rfl)
      go_wp2_with fail
      go_ret
      exact ⟨by rw [HV.out]; rfl, ((HB.out.alloc (by have := HB.out.size; omega) _).alloc (by have := HB.out.size; simp; omega) _).drew⟩
    · go_wp2_with fail
      refine ((sized_any f i n _ (Lib.hid rfl) _)).mono ?_
      rintro _ w3 ⟨rfl, hb3⟩
      obtain ⟨q3, hq3⟩ : ∃ q3, q3 = sizedP f.size := ⟨_, rfl⟩
      have HQ3 := Lib.hid hq3
      rw [← hq3]
      clear hq3
      have HV : Hid (r = q3) := Lib.hid (by rw [hr.out, HF.out]; rw [← HQ.out, HQ3.out]; rfl)
      go_wp2_with fail
      go_ret
      exact ⟨by rw [HV.out]; rfl, (((HB.out.alloc (by have := HB.out.size; omega) _).alloc (by have := HB.out.size; simp; omega) _).drew).trans (hb3.mono (by have := HB.out.size; simp; omega))⟩
  · have hE := insE_f (show ({ bareI f with d := f.d, a := f.a, n := f.n, size := f.size } : Ins) ≠ ⟨f.op, f.what, f.nar, f.d, f.a, f.b, f.n, f.size, f.to⟩ from hf)
    have HF : Hid ((insE { bareI f with d := f.d, a := f.a, n := f.n, size := f.size } f && ([f.d, f.a].all regP && sizedP f.size)) = false) := Lib.hid (by rw [insE_f hf]; rfl)
    clear hf
    simp only [bareI] at hE
    go_wp2_with fail
    go_ret
    exact ⟨by rw [hr.out, HF.out]; rfl, (HB.out.alloc (by have := HB.out.size; omega) _).drew⟩
set_option maxHeartbeats 4000000 in
theorem write_pl (f : Ins) (i n : Int) (r : Bool) (hr : Hid (r = (insE { bareI f with a := f.a, b := f.b, n := f.n, size := f.size } f && ([f.a, f.b].all regP && sizedP f.size)))) (w : World) : Calls Try.prog 44 #[plA f i n] w fun e w' => e = .returned (.bool r) ∧ Below w.heap.size w w' := by
  have hcon := fun W => bare_any f i n W
  simp only [plA, plV, insV, insA, bareI, List.cons_append, List.nil_append] at hcon
  unfold plA plV insV
  go_enter Try.func44, Try.ntmps44
  go_wp2_with fail
  refine (hcon _).mono ?_
  rintro _ w1 ⟨rfl, hb⟩
  obtain ⟨cc, hB⟩ := pl_keeps2 f i n w w1 hb
  have HB := Lib.hid hB
  simp only [plC] at cc
  have e0 := cc 0 _ rfl
  have e1 := cc 1 _ rfl
  have e2 := cc 2 _ rfl
  have e3 := cc 3 _ rfl
  have e4 := cc 4 _ rfl
  have e5 := cc 5 _ rfl
  have e6 := cc 6 _ rfl
  have e7 := cc 7 _ rfl
  have e8 := cc 8 _ rfl
  have e9 := cc 9 _ rfl
  have e10 := cc 10 _ rfl
  have z0 : w.heap.size < w1.heap.size := pl_lt f i n w w1 hb
  have z1 : w.heap.size < w1.heap.size + 1 := Nat.lt_succ_of_lt z0
  clear cc hb hB hcon
  go_wp2_with fail
  go_region
  by_cases hf : ({ bareI f with a := f.a, b := f.b, n := f.n, size := f.size } : Ins) = f
  · have hE := insE_t (show ({ bareI f with a := f.a, b := f.b, n := f.n, size := f.size } : Ins) = ⟨f.op, f.what, f.nar, f.d, f.a, f.b, f.n, f.size, f.to⟩ from hf)
    have HF : Hid ((insE { bareI f with a := f.a, b := f.b, n := f.n, size := f.size } f && ([f.a, f.b].all regP && sizedP f.size)) = (([f.a, f.b].all regP && sizedP f.size))) := Lib.hid (by rw [insE_t hf]; rfl)
    clear hf
    simp only [bareI] at hE
    go_wp2_with fail
    refine (regs_new [f.a, f.b] _ _ (by simp) (new2 _ _ _)).mono ?_
    rintro _ w2 ⟨rfl, rfl⟩
    obtain ⟨q, hq⟩ : ∃ q, q = [f.a, f.b].all regP := ⟨_, rfl⟩
    have HQ := Lib.hid hq
    rw [← hq]
    clear hq
    cases q
    · have HV : Hid (r = false) := Lib.hid (by rw [hr.out, HF.out, ← HQ.out]; rfl)
      go_wp2_with fail
      go_ret
      exact ⟨by rw [HV.out]; rfl, ((HB.out.alloc (by have := HB.out.size; omega) _).alloc (by have := HB.out.size; simp; omega) _).drew⟩
    · go_wp2_with fail
      refine ((sized_any f i n _ (Lib.hid rfl) _)).mono ?_
      rintro _ w3 ⟨rfl, hb3⟩
      obtain ⟨q3, hq3⟩ : ∃ q3, q3 = sizedP f.size := ⟨_, rfl⟩
      have HQ3 := Lib.hid hq3
      rw [← hq3]
      clear hq3
      have HV : Hid (r = q3) := Lib.hid (by rw [hr.out, HF.out]; rw [← HQ.out, HQ3.out]; rfl)
      go_wp2_with fail
      go_ret
      exact ⟨by rw [HV.out]; rfl, (((HB.out.alloc (by have := HB.out.size; omega) _).alloc (by have := HB.out.size; simp; omega) _).drew).trans (hb3.mono (by have := HB.out.size; simp; omega))⟩
  · have hE := insE_f (show ({ bareI f with a := f.a, b := f.b, n := f.n, size := f.size } : Ins) ≠ ⟨f.op, f.what, f.nar, f.d, f.a, f.b, f.n, f.size, f.to⟩ from hf)
    have HF : Hid ((insE { bareI f with a := f.a, b := f.b, n := f.n, size := f.size } f && ([f.a, f.b].all regP && sizedP f.size)) = false) := Lib.hid (by rw [insE_f hf]; rfl)
    clear hf
    simp only [bareI] at hE
    go_wp2_with fail
    go_ret
    exact ⟨by rw [hr.out, HF.out]; rfl, (HB.out.alloc (by have := HB.out.size; omega) _).drew⟩
end Go.Proofs.Ytbfegghkipoppaa
