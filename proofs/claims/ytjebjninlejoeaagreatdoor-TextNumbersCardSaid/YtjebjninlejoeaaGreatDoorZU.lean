/- text: what both parsers tell of a text is one. text: TextNumbers: its lists, and the words of the library that it asks. -/
import Derived.Test.YtjebjninlejoeaaGreatDoorVShelf
import Derived.Lib.Join
import Derived.Lib.Repeat
import Derived.Test.YtjebjninlejoeaaGreatDoorZO
import Derived.Test.YtjebjninlejoeaaGreatDoorZK
namespace Go.Proofs.YtjebjninlejoeaaGreatDoor
open Go.RowKit Go.Maps Go.ChangeMaps
set_option linter.unusedVariables false
set_option linter.unusedSimpArgs false
set_option linter.unusedSectionVars false
set_option maxRecDepth 100000

theorem eql_ft (a b c d : Int) (w : World) : (binOp .eql 26 (.agg #[.int .i64 a, .int .i64 b]) (.agg #[.int .i64 c, .int .i64 d])).run Tryz.prog w = .ok (.bool ((a == c) && (b == d))) w := by
  rw [run_eql_struct]
  have h1 : Tryz.prog.underlying 26 = some (.struct (Tryz.prog.fieldsOf 26)) := by kernel_rfl
  have h2 : Tryz.prog.stoodInHeld 26 = false := by kernel_rfl
  rw [run_equalIn_struct w 9999 26 _ _ h1 h2]
  simp [go_sem, Program.fieldsOf, Op.eqFields]
  repeat' split
  all_goals simp_all
theorem rparse_long (s : Nm) (hs : 262144 < s.length) (hs2 : s.length ≤ 1000000000) (w : World) : Calls Tryz.prog 29 #[.string ⟨s.toArray⟩] w fun x w' => ParR w (parseP s) x w' := by
  have HE := Lib.hid (show parseP s = .error (3, 0) by unfold parseP; rw [if_pos hs])
  have hx : (((⟨s.toArray⟩ : ByteArray).size : Nat) : Int) = (s.length : Int) := by show ((s.toArray.size : Nat) : Int) = _; simp
  have d1 : decide ((262144 : Int) < (s.length : Int)) = true := decide_eq_true (by omega)
  have q1 : (262144 : Int) < (s.length : Int) := by omega
  have hF := Bk.new w 26 [.int .i64 0, .int .i64 0]
  have hk2 := flt_bk hF 3 0
  have HN := Lib.hid (ParR.err (w := w) (m := 0) HE.out ((((Below.refl _ w).alloc (Nat.le_refl _) (.cells #[.int .i64 0, .int .i64 0] 26)).setCell (p := ⟨w.heap.size, 0, none⟩) (Nat.le_refl _) (.int .i64 3)).setCell (p := ⟨w.heap.size, 1, none⟩) (Nat.le_refl _) (.int .i64 0)))
  have f0 := hF.cell 0
  have f1 := hF.cell 1
  have z0 := hF.frozen 0
  have z1 := hF.frozen 1
  simp only [List.getElem?_cons_zero, List.getElem?_cons_succ] at f0 f1
  have HK := Lib.hid hk2
  clear hF hk2
  go_enter Tryz.func29, Tryz.ntmps29
  go_wp2_with fail
  first
    | exact bodyPost_ret (leave_rparse w.heap.size _ 3 0 _ _ ⟨HK.out.cell 0, HK.out.cell 1⟩ rfl rfl) rfl HN.out
    | (have hF2 := Bk.new w 26 [.int .i64 3, .int .i64 0]
       exact bodyPost_ret (leave_rparse w.heap.size _ 3 0 _ _ ⟨hF2.cell 0, hF2.cell 1⟩ rfl rfl) rfl (ParR.err (m := 0) HE.out ((Below.refl _ w).alloc (Nat.le_refl _) _)))
theorem rparse_any (s : Nm) (hs : s.length ≤ 1000000000) (w : World) : Calls Tryz.prog 29 #[.string ⟨s.toArray⟩] w fun x w' => ParR w (parseP s) x w' := by
  by_cases h : s.length ≤ 262144
  · exact rparse_short s h w
  · exact rparse_long s (by omega) hs w
/-- The instructions and the fault of an answer. -/
def rlP (r : Except (Int × Nat) (List IV)) : List IV := match r with | .ok l => l | .error _ => []
def reP (r : Except (Int × Nat) (List IV)) : Int × Int := match r with | .ok _ => (0, 0) | .error e => (e.1, (e.2 : Int))
theorem rl_len (s : Nm) : (rlP (parseP s)).length ≤ 4096 := by
  cases h : parseP s with
  | ok l => exact (parse_right h).2
  | error e => simp [rlP]
theorem ParR.all {w : World} {r : Except (Int × Nat) (List IV)} {x : Ending} {w' : World} (h : ParR w r x w') : ∃ A c, x = .returned (.tuple #[.slice A (rlP r).length c, .agg #[.int .i64 (reP r).1, .int .i64 (reP r).2]]) ∧ Below w.heap.size w w' ∧ w'.ownsRow w.heap.size 40 8 (.slice A (rlP r).length c) (rlP r).length (outC (rlP r)) := by
  obtain ⟨hb, h⟩ := h
  cases r with
  | error e => exact ⟨none, 0, h, hb, World.ownsRow_nil _ _ _ _⟩
  | ok l =>
    obtain ⟨vo, rfl, ho⟩ := h
    obtain ⟨A, c, rfl⟩ := own_slice ho
    exact ⟨A, c, rfl, hb, ho⟩
theorem parses_any (s : Nm) (hs : s.length ≤ 1000000000) {B : Nat} (w : World) (hv : Tv B w) (hB : B ≤ w.heap.size) : Calls Tryz.prog 10 #[.string ⟨s.toArray⟩] w fun e w' => e = .returned (.bool true) ∧ Below w.heap.size w w' := by
  have hp := parse_any s hs w hv hB
  have hq := fun W => rparse_any s hs W
  have hL := rl_len s
  have heq := eql_ft
  generalize parseP s = r at *
  go_enter Tryz.func10, Tryz.ntmps10
  go_wp2_with fail
  (with_reducible refine hp.mono ?_)
  intro x w1 h1
  obtain ⟨A1, c1, rfl, b1, o1⟩ := h1.all
  have B1 := Lib.hid (b1.alloc b1.size (.cells #[.int .i64 (reP r).1, .int .i64 (reP r).2] 26))
  have HK1 := Lib.hid (Bk.new w1 26 [.int .i64 (reP r).1, .int .i64 (reP r).2])
  have O1 := Lib.hid (own_keep o1 fun g q => Below.heap_alloc w1 (.cells #[.int .i64 (reP r).1, .int .i64 (reP r).2] 26) g (o1.lt g q).2)
  clear h1 hp b1 o1
  go_upto_region 2 with fail
  have HK1 : Hid (Bk (w1.alloc (.cells #[.int .i64 (reP r).1, .int .i64 (reP r).2] 26)) w1.heap.size 26 [.int .i64 (reP r).1, .int .i64 (reP r).2]) := HK1
  generalize (w1.alloc (.cells #[.int .i64 (reP r).1, .int .i64 (reP r).2] 26)) = wa at *
  generalize w1.heap.size = F1 at *
  go_wp2_with fail
  (with_reducible refine (hq wa).mono ?_)
  intro x w2 h2
  obtain ⟨A2, c2, rfl, b2, o2⟩ := h2.all
  have hb2 := b2.alloc b2.size (.cells #[.int .i64 (reP r).1, .int .i64 (reP r).2] 26)
  have B2 := Lib.hid (B1.out.trans (hb2.mono B1.out.size))
  have HK2 := Lib.hid (Bk.new w2 26 [.int .i64 (reP r).1, .int .i64 (reP r).2])
  have O2 := Lib.hid (own_keep o2 fun g q => Below.heap_alloc w2 (.cells #[.int .i64 (reP r).1, .int .i64 (reP r).2] 26) g (o2.lt g q).2)
  have O1' := Lib.hid (own_keep O1.out fun g q => hb2.block g (O1.out.lt g q).2)
  have HK1' := Lib.hid (HK1.out.below hb2 HK1.out.lt)
  clear h2 hq b2 o2 hb2 HK1 O1 B1
  go_upto_region 3 with fail
  have HK2 : Hid (Bk (w2.alloc (.cells #[.int .i64 (reP r).1, .int .i64 (reP r).2] 26)) w2.heap.size 26 [.int .i64 (reP r).1, .int .i64 (reP r).2]) := HK2
  generalize (w2.alloc (.cells #[.int .i64 (reP r).1, .int .i64 (reP r).2] 26)) = wb at *
  generalize w2.heap.size = F2 at *
  generalize reP r = e at *
  obtain ⟨e1, e2⟩ := e
  have f0 := HK1'.out.cell 0
  have f1 := HK1'.out.cell 1
  have g0 := HK2.out.cell 0
  have g1 := HK2.out.cell 1
  simp only [List.getElem?_cons_zero, List.getElem?_cons_succ] at f0 f1 g0 g1
  obtain ⟨A3, c3, ea, i1⟩ := Ivs.of_own O1'.out
  obtain ⟨A4, c4, eb, i2⟩ := Ivs.of_own O2.out
  injection ea with ea1 ea2 ea3
  injection eb with eb1 eb2 eb3
  subst ea1 ea3 eb1 eb3
  have hsm := sameIns_any A1 A2 c1 c2 (rlP r) (rlP r) wb i1 i2 (by omega) (by omega)
  clear i1 i2 ea2 eb2
  go_wp2_with fail
  (with_reducible refine hsm.mono ?_)
  rintro _ w5 ⟨rfl, b5⟩
  have B5 := Lib.hid (B2.out.trans (b5.mono B2.out.size))
  go_wp2_with fail
  go_ret
  exact ⟨by simp, B5.out⟩
end Go.Proofs.YtjebjninlejoeaaGreatDoor
namespace Go.Proofs.YtjebjninlejoeaaGreatDoor
open Go.RowKit Go.Maps Go.ChangeMaps
set_option linter.unusedVariables false
set_option linter.unusedSimpArgs false
set_option linter.unusedSectionVars false
set_option maxRecDepth 100000

/-- The pieces of a text. -/
def pcs (s sep : ByteArray) : List ByteArray := Lib.splitB sep 0 (Lib.countB s sep) s
def linesB : ByteArray := ⟨#[97, 100, 100, 32, 114, 49, 32, 44, 32, 114, 50, 124, 115, 117, 98, 51, 50, 32, 114, 57, 32, 44, 32, 53, 124, 109, 111, 118, 32, 114, 48, 32, 44, 32, 45, 32, 55, 124, 110, 101, 103, 32, 114, 51, 124, 110, 101, 103, 51, 50, 32, 114, 51, 124, 108, 111, 97, 100, 49, 32, 114, 49, 32, 44, 32, 91, 32, 114, 49, 48, 32, 45, 32, 56, 32, 93, 124, 108, 111, 97, 100, 56, 32, 114, 49, 32, 44, 32, 91, 32, 114, 50, 32, 43, 32, 48, 32, 93, 124, 112, 117, 116, 50, 32, 91, 32, 114, 49, 48, 32, 45, 32, 49, 54, 32, 93, 32, 44, 32, 114, 49, 124, 112, 117, 116, 52, 32, 91, 32, 114, 49, 48, 32, 43, 32, 55, 32, 93, 32, 44, 32, 45, 32, 49, 124, 106, 117, 109, 112, 32, 120, 124, 106, 117, 109, 112, 32, 43, 32, 51, 124, 106, 101, 113, 32, 114, 49, 32, 44, 32, 114, 50, 32, 44, 32, 120, 124, 106, 115, 101, 116, 51, 50, 32, 114, 49, 48, 32, 44, 32, 57, 32, 44, 32, 45, 32, 50, 124, 101, 120, 105, 116, 124, 120, 32, 58]⟩
def otherB : ByteArray := ⟨#[114, 48, 32, 114, 49, 48, 32, 114, 49, 49, 32, 48, 32, 55, 32, 48, 55, 32, 57, 57, 57, 57, 57, 57, 57, 57, 57, 57, 32, 57, 57, 57, 57, 57, 57, 57, 57, 57, 57, 57, 32, 44, 32, 91, 32, 93, 32, 43, 32, 45, 32, 58, 32, 120, 32, 121, 32, 97, 100, 100, 32, 108, 111, 97, 100, 51, 32, 110, 101, 103, 32, 101, 120, 105, 116, 32, 95, 32, 35]⟩
def numsB : ByteArray := ⟨#[48, 124, 49, 124, 48, 48, 124, 48, 49, 124, 51, 50, 55, 54, 55, 124, 51, 50, 55, 54, 56, 124, 51, 50, 55, 54, 57, 124, 50, 49, 52, 55, 52, 56, 51, 54, 52, 55, 124, 50, 49, 52, 55, 52, 56, 51, 54, 52, 56, 124, 50, 49, 52, 55, 52, 56, 51, 54, 52, 57, 124, 57, 57, 57, 57, 57, 57, 57, 57, 57, 57, 124, 48, 48, 48, 48, 48, 48, 48, 48, 48, 48, 48]⟩
/-- Is a piece short, and do its own pieces fit? -/
def okL (x : ByteArray) : Bool := decide (x.size ≤ 40) && x.data.toList.all (fun b => decide (b.toNat < 128)) && decide ((pcs x ⟨#[32]⟩).length = Lib.countB x ⟨#[32]⟩ + 1) && decide (Lib.countB x ⟨#[32]⟩ ≤ 20) && (pcs x ⟨#[32]⟩).all (fun y => decide (y.size ≤ 40)) && decide ((Lib.replaceAll x.data.toList [32] []).length ≤ 40) && decide ((Lib.toUpperA x.data.toList).length ≤ 40)
theorem lines_ok : (pcs linesB ⟨#[124]⟩).all okL = true ∧ (pcs linesB ⟨#[124]⟩).length = 15 ∧ Lib.countB linesB ⟨#[124]⟩ = 14 := by decide +kernel
theorem other_ok : (pcs otherB ⟨#[32]⟩).all (fun y => decide (y.size ≤ 40)) = true ∧ (pcs otherB ⟨#[32]⟩).length = 22 ∧ Lib.countB otherB ⟨#[32]⟩ = 21 := by decide +kernel
theorem nums_ok : (pcs numsB ⟨#[124]⟩).all (fun y => decide (y.size ≤ 40)) = true ∧ (pcs numsB ⟨#[124]⟩).length = 12 ∧ Lib.countB numsB ⟨#[124]⟩ = 11 := by decide +kernel
/-- A block of texts. -/
def Sb (w : World) (g : Nat) (l : List ByteArray) : Prop := Bk w g 9 (l.map Value.string)
theorem Sb.at_ {w : World} {g : Nat} {l : List ByteArray} (h : Sb w g l) {k : Nat} {x : ByteArray} (hx : l[k]? = some x) : w.cell? ⟨g, k, none⟩ = some (.string x) := by
  have := Bk.cell h k
  rw [List.getElem?_map, hx] at this
  exact this
theorem Sb.below {w w' : World} {g : Nat} {l : List ByteArray} (h : Sb w g l) (hb : Below w.heap.size w w') : Sb w' g l := Bk.below h hb (Bk.lt h)
theorem split_B (s sep : ByteArray) (hs : s.size ≤ 100000) (h1 : 1 ≤ sep.size) {n : Nat} (hn : Lib.countB s sep + 1 = n) {B : Nat} (w : World) (hv : Tv B w) : Calls Tryz.prog 21 #[.string s, .string sep] w fun e w' => e = .returned (.slice (some ⟨w.heap.size, 0, none⟩) n n) ∧ Sb w' w.heap.size (pcs s sep) ∧ Below w.heap.size w w' := by
  obtain ⟨m, hm⟩ := hv.ml
  subst hn
  refine (Tryz.strings_Split s sep m w (by omega) hm h1).mono ?_
  rintro e w' ⟨h1, h2⟩
  subst h2
  exact ⟨h1, Bk.new w _ _, (Below.refl _ w).alloc (Nat.le_refl _) _⟩
theorem join_len (sep : List UInt8) (M : Nat) : ∀ l : List (List UInt8), (∀ x ∈ l, x.length ≤ M) → (Lib.join l sep).length ≤ l.length * (M + sep.length)
  | [], _ => Nat.zero_le _
  | [x], h => by
    have := h x (List.mem_cons_self ..)
    rw [Lib.join_one]
    simp only [List.length_cons, List.length_nil]
    omega
  | x :: y :: r, h => by
    have h1 := h x (List.mem_cons_self ..)
    have h2 := join_len sep M (y :: r) (fun z hz => h z (List.mem_cons_of_mem _ hz))
    have e : (Lib.join (x :: y :: r) sep).length = x.length + sep.length + (Lib.join (y :: r) sep).length := by
      show (sep.intercalate (x :: y :: r)).length = x.length + sep.length + (sep.intercalate (y :: r)).length
      have e2 : sep.intercalate (x :: y :: r) = x ++ (sep ++ sep.intercalate (y :: r)) := rfl
      rw [e2, List.length_append, List.length_append]
      omega
    rw [e]
    simp only [List.length_cons] at h2 ⊢
    rw [Nat.succ_mul]
    omega
theorem join_any {w0 w : World} (g o c : Nat) (l xs : List ByteArray) (hsb : Sb w g l) (hxs : ∀ (j : Nat) x, xs[j]? = some x → l[o + j]? = some x) (hn : xs.length ≤ 21) (hc : xs.length ≤ c) (hM : ∀ x ∈ l, x.size ≤ 40) :
    Calls Tryz.prog 22 #[.slice (some ⟨g, o, none⟩) xs.length c, .string ⟨#[32]⟩] w fun e w' => ∃ t : ByteArray, e = .returned (.string t) ∧ t.size ≤ 1000 ∧ Below w.heap.size w w' := by
  have hlen := join_len [32] 40 (xs.map (·.data.toList)) (fun x hx => by
    obtain ⟨y, hy, rfl⟩ := List.mem_map.1 hx
    obtain ⟨j, hj, rfl⟩ := List.mem_iff_getElem.1 hy
    have := hM _ (List.mem_of_getElem? (hxs j _ (List.getElem?_eq_getElem hj)))
    show (xs[j]).data.toList.length ≤ 40
    rw [Array.length_toList]
    exact this)
  simp only [List.length_map, List.length_cons, List.length_nil] at hlen
  have e32 : (⟨#[32]⟩ : ByteArray).data.toList = [32] := rfl
  refine (Tryz.strings_Join g o c xs ⟨#[32]⟩ w (fun j x hx => hsb.at_ (hxs j x hx)) (Bk.lt hsb) (by omega) hc (by rw [e32]; omega)).mono ?_
  rintro e w' ⟨h1, h2⟩
  refine ⟨_, h1, ?_, h2⟩
  show (List.toArray _).size ≤ _
  rw [List.size_toArray, e32]
  omega
theorem upper_B (s : ByteArray) (hs : okL s = true) (w : World) : Calls Tryz.prog 23 #[.string s] w fun e w' => ∃ t : ByteArray, e = .returned (.string t) ∧ t.size ≤ 1000 ∧ Below w.heap.size w w' := by
  unfold okL at hs
  simp only [Bool.and_eq_true, decide_eq_true_eq, List.all_eq_true] at hs
  obtain ⟨⟨⟨⟨⟨⟨h1, h2⟩, h3⟩, h4⟩, h5⟩, h6⟩, h7⟩ := hs
  refine (Tryz.strings_ToUpper_ascii s w (by omega) (fun j b hb => h2 b (List.mem_of_getElem? hb))).mono ?_
  rintro e w' ⟨k1, k2⟩
  exact ⟨_, k1, by show (List.toArray _).size ≤ _; rw [List.size_toArray]; omega, k2⟩
theorem repl_B (s : ByteArray) (hs : okL s = true) {B : Nat} (w : World) (hv : Tv B w) : Calls Tryz.prog 20 #[.string s, .string ⟨#[32]⟩, .string ⟨#[]⟩] w fun e w' => ∃ t : ByteArray, e = .returned (.string t) ∧ t.size ≤ 1000 ∧ Below w.heap.size w w' := by
  unfold okL at hs
  simp only [Bool.and_eq_true, decide_eq_true_eq, List.all_eq_true] at hs
  obtain ⟨⟨⟨⟨⟨⟨h1, h2⟩, h3⟩, h4⟩, h5⟩, h6⟩, h7⟩ := hs
  obtain ⟨m, hm⟩ := hv.ml
  refine (Tryz.strings_ReplaceAll s ⟨#[32]⟩ ⟨#[]⟩ m w (by omega) hm (by decide) (by show s.size + _ * 0 ≤ _; omega)).mono ?_
  rintro e w' ⟨k1, k2⟩
  exact ⟨_, k1, by show (List.toArray _).size ≤ _; rw [List.size_toArray]; exact Nat.le_trans h6 (by decide), k2⟩
theorem repeat_B (s : ByteArray) (c : Nat) (hc : s.size * c ≤ 1000000) (hc2 : c ≤ 1000000) (w : World) : Calls Tryz.prog 24 #[.string s, .int .i64 c] w fun e w' => ∃ t : ByteArray, e = .returned (.string t) ∧ t.size ≤ 1000000 ∧ Below w.heap.size w w' := by
  refine (Tryz.strings_Repeat s c w (by omega) (by omega)).mono ?_
  rintro e w' ⟨k1, k2⟩
  refine ⟨_, k1, ?_, k2⟩
  show (List.toArray _).size ≤ _
  rw [List.size_toArray, Lib.repeatL_length, Array.length_toList]
  show c * s.size ≤ _
  rw [Nat.mul_comm]
  exact hc
theorem parses_B (s : ByteArray) (hs : s.size ≤ 100000000) {B : Nat} (w : World) (hv : Tv B w) (hB : B ≤ w.heap.size) : Calls Tryz.prog 10 #[.string s] w fun e w' => e = .returned (.bool true) ∧ Below w.heap.size w w' := by
  have h := parses_any s.data.toList (by rw [Array.length_toList]; show s.size ≤ _; omega) w hv hB
  have e : (⟨s.data.toList.toArray⟩ : ByteArray) = s := by cases s; simp
  rwa [e] at h
end Go.Proofs.YtjebjninlejoeaaGreatDoor
