/- text, the walk: any line. text, the walk: Parse's deferred function. text, the walk: parser.land. text, the walk: Parse. -/
import Derived.Test.YtjebjninlejoeaaGreatDoorX33
import Derived.Recover
import Derived.Defers
import Derived.Laws.Pointers
import Derived.Shelf.Abstract
import Derived.Test.YtjebjninlejoeaaGreatDoorZA
import Derived.Test.YtjebjninlejoeaaGreatDoorZI
namespace Go.Proofs.YtjebjninlejoeaaGreatDoor
open Go.RowKit Go.Maps Go.ChangeMaps
set_option linter.unusedVariables false
set_option linter.unusedSimpArgs false
set_option linter.unusedSectionVars false
set_option maxRecDepth 100000

theorem line_any (s : Nm) (hs : s.length ≤ 1000000) (m : Nat) (n : Int) (hn : n = (m : Int)) {B P Wm M : Nat} {st : PS} {vo vj : Value} (w : World) (hv : Tv B w) (hB : B ≤ w.heap.size) {D : Nat} (hp : PsAt w D P Wm M st vo vj) (hsz : st.out.length ≤ 4096 ∧ st.jumps.length ≤ 4096) : Calls Tryz.prog 27 #[.pointer (some ⟨P, 0, none⟩), .string ⟨s.toArray⟩, .int .i64 n] w fun x w' => LineR w D P Wm M (stepP st m s) x w' := by
  have hD : D ≤ w.heap.size := Nat.le_trans hp.lo.1 (Nat.le_of_lt hp.bk.lt)
  cases ht : toks s with
  | none =>
    refine (line_bad s hs n P w hv hB ht).mono ?_
    rintro x w' ⟨rfl, hb⟩
    rw [hn]
    exact LineR.err (step_bad ht) (Lo.of hb hD)
  | some l =>
    cases l with
    | nil =>
      refine (line_none s hs n P w hv hB ht).mono ?_
      rintro x w' ⟨rfl, hb⟩
      exact LineR.ok (step_none ht) (Lo.of hb hD) (hp.below hb)
    | cons s0 t =>
      have hsh := toks_short ht
      have h0 := hsh s0 (List.mem_cons_self ..)
      cases hm : markT (s0 :: t) with
      | some a =>
        obtain ⟨e1, e2⟩ := mark_form hm
        have hst := step_mark (st := st) (n := m) ht hm
        rw [e1] at ht
        have ha : a.length ≤ 1000000 := by
          have := toks_short ht a (List.mem_cons_self ..)
          omega
        cases hh : hasM st.marks a with
        | none =>
          refine (line_mark s hs n w hv hB ht e2 ha hp hh).mono ?_
          rintro x w' ⟨rfl, h2, a2⟩
          exact LineR.ok (hst.1 hh) ⟨⟨a2.os, a2.tape, a2.output, a2.size, fun k hk => a2.block k (Nat.lt_of_lt_of_le hk hD) (by have := hp.lo.2.2; omega)⟩, fun b cs fr q => a2.block b (blk_lt q) (fun e => by
            subst e
            obtain ⟨L, ⟨es, ck, h1, _⟩, _⟩ := hp.marks
            rw [h1] at q
            cases q)⟩ h2
        | some k =>
          refine (line_twice s hs n w hv hB ht e2 ha hp hh).mono ?_
          rintro x w' ⟨rfl, hb⟩
          rw [hn]
          exact LineR.err (hst.2 k hh) (Lo.of hb hD)
      | none =>
        cases hw : wayP s0 with
        | none =>
          refine (line_unknown s hs n w hv hB ht hm (by omega) hp hw).mono ?_
          rintro x w' ⟨rfl, hb⟩
          rw [hn]
          exact LineR.err (step_unknown ht hm hw) (Lo.of hb hD)
        | some p =>
          exact line_known s hs m n hn w hv hB ht hm (by omega) hp hsz (i := p.1) (k := p.2) hw
end Go.Proofs.YtjebjninlejoeaaGreatDoor
namespace Go.Proofs.YtjebjninlejoeaaGreatDoor
open Go.RowKit Go.Maps Go.ChangeMaps Go.Shelf
set_option linter.unusedVariables false
set_option linter.unusedSimpArgs false
set_option linter.unusedSectionVars false
set_option maxRecDepth 100000

theorem parse_idle (a b : Addr) (w : World) : CallsD Tryz.prog 25 #[.pointer (some a), .pointer (some b)] .returning w fun e u' w' => e = .returned (.tuple #[]) ∧ u' = .returning ∧ w' = w := by
  refine callsD_of_wpS Tryz.func25 rfl fun c₀ cs hu => ?_
  apply wpS_seq
  apply wpS_region
  simp [wpOpsS, go_sem, recoverD, hu, Tryz.ntmps25, Exit.thenS]
  refine wpS_of_wp ?_
  simp [Array.replicate]
  go_wp2
  cases c₀
  simp_all [bodyPostS, results, Tryz.results25]
theorem parse_caught {F L : Nat} {v : Value} (x n : Int) (w : World) (hF : Bk w F 26 [.int .i64 0, .int .i64 0]) (hL : Bk w L 23 [v]) (hne : F ≠ L) :
    CallsD Tryz.prog 25 #[.pointer (some ⟨F, 0, none⟩), .pointer (some ⟨L, 0, none⟩)] (.panicking [{ v := .iface 26 (ftV x n), recovered := false }]) w fun e u' w' =>
      e = .returned (.tuple #[]) ∧ u' = .panicking [{ v := .iface 26 (ftV x n), recovered := true }] ∧ w' = ((w.setCell ⟨F, 0, none⟩ (.int .i64 x)).setCell ⟨F, 1, none⟩ (.int .i64 n)).setCell ⟨L, 0, none⟩ (.slice none 0 0) := by
  have cF0 := hF.cell 0
  have cF1 := hF.cell 1
  have fF0 := hF.frozen 0
  have fF1 := hF.frozen 1
  have cL := hL.cell 0
  have fL := hL.frozen 0
  simp only [List.getElem?_cons_zero, List.getElem?_cons_succ] at cF0 cF1 cL
  clear hF hL
  unfold ftV
  refine callsD_of_wpS Tryz.func25 rfl fun c₀ cs hu => ?_
  apply wpS_seq
  apply wpS_region
  simp [wpOpsS, go_sem, recoverD, hu, Tryz.ntmps25, Exit.thenS]
  refine wpS_of_wp ?_
  simp [Array.replicate]
  have hta : ∀ (w : World) (x n : Int), (Instr.typeAssert (.iface 26 (.agg #[.int .i64 x, .int .i64 n])) 20 26 true).run Tryz.prog w = .ok (.tuple #[.agg #[.int .i64 x, .int .i64 n], .bool true]) w := fun _ _ _ => by kernel_rfl
  go_wp2
  cases c₀
  simp_all [bodyPostS, results, Tryz.results25]
end Go.Proofs.YtjebjninlejoeaaGreatDoor
namespace Go.Proofs.YtjebjninlejoeaaGreatDoor
open Go.RowKit Go.Maps Go.ChangeMaps
set_option linter.unusedVariables false
set_option linter.unusedSimpArgs false
set_option linter.unusedSectionVars false
set_option maxRecDepth 100000

theorem flat_at {α : Type} {f : α → List Value} {c : Nat} (hf : ∀ x, (f x).length = c) : ∀ (l : List α) (k : Nat) (x : α) (m : Nat), l[k]? = some x → m < c → (l.flatMap f)[k * c + m]? = (f x)[m]?
  | [], k, x, m, h, hm => by simp at h
  | y :: l, 0, x, m, h, hm => by
    simp at h
    subst h
    rw [List.flatMap_cons, List.getElem?_append_left (by rw [hf]; omega)]
    simp
  | y :: l, k + 1, x, m, h, hm => by
    have e : (k + 1) * c + m = c + (k * c + m) := by rw [Nat.succ_mul]; omega
    rw [List.flatMap_cons, List.getElem?_append_right (by rw [hf]; omega), hf, e, Nat.add_sub_cancel_left]
    exact flat_at hf l k x m (by simpa using h) hm
theorem jm_at {w : World} {D g c : Nat} {l : List Jmp} {n : Nat} (h : w.ownsRow D 129 3 (.slice (some ⟨g, 0, none⟩) n c) n (jmC l)) (hn : l.length ≤ n) {k : Nat} {j : Jmp} (hk : l[k]? = some j) :
    w.cell? ⟨g, k * 3, none⟩ = some (.int .i64 j.at_) ∧ w.cell? ⟨g, k * 3 + 1, none⟩ = some (.int .i64 j.line) ∧ w.cell? ⟨g, k * 3 + 2, none⟩ = some (.string ⟨j.to.toArray⟩) := by
  have hlt : k < l.length := (List.getElem?_eq_some_iff.1 hk).1
  have f := fun m (hm : m < 3) => (h.cellAt (k * 3 + m) (by omega)).trans (flat_at (f := fun j : Jmp => [Value.int .i64 j.at_, .int .i64 j.line, .string ⟨j.to.toArray⟩]) (c := 3) (fun _ => rfl) l k j m hk hm)
  exact ⟨f 0 (by omega), f 1 (by omega), f 2 (by omega)⟩
theorem ins_at {w : World} {D g c : Nat} {l : List IV} {n : Nat} (h : w.ownsRow D 40 8 (.slice (some ⟨g, 0, none⟩) n c) n (outC l)) (hn : l.length ≤ n) {k : Nat} {i : IV} (hk : l[k]? = some i) {m : Nat} (hm : m < 8) :
    w.cell? ⟨g, k * 8 + m, none⟩ = (ivV i)[m]? := by
  have hlt : k < l.length := (List.getElem?_eq_some_iff.1 hk).1
  exact (h.cellAt (k * 8 + m) (by omega)).trans (flat_at (f := ivV) (c := 8) (fun _ => rfl) l k i m hk hm)
theorem markTy : Tryz.prog.underlying 55 = some (.map 9 3) := Tryz.underlying55
/-- Jumps landing: those behind place k are left. -/
structure LaI (w : World) (D P Wm M : Nat) (st : PS) (vo vj : Value) (k : Nat) (out : List IV) (W : World) : Prop where
  low : Below D w W
  ps : PsAt W D P Wm M { st with out := out } vo vj
  eq : landP st.marks st.out st.jumps = landP st.marks out (st.jumps.drop k)
  right : ∀ i ∈ out, rightP i = true
  jmp : ∀ j ∈ st.jumps.drop k, ∃ i, out[j.at_]? = some i ∧ JmpOp i
  len : out.length = st.out.length
/-- What landing tells. -/
def LandR (w : World) (D P Wm M : Nat) (st : PS) (vj : Value) (r : Except (Int × Nat) (List IV)) (x : Ending) (w' : World) : Prop :=
  Below D w w' ∧ match r with
  | .error e => x = Thrown e.1 (e.2 : Nat)
  | .ok l => x = .returned (.tuple #[]) ∧ ∃ vo, PsAt w' D P Wm M { st with out := l } vo vj
theorem LandR.err {w w' : World} {D P Wm M : Nat} {st : PS} {vj : Value} {r : Except (Int × Nat) (List IV)} {e : Int} {m : Nat} (h : r = .error (e, m)) (hb : Below D w w') : LandR w D P Wm M st vj r (Thrown e (m : Nat)) w' := by
  subst h
  exact ⟨hb, rfl⟩
theorem LandR.ok {w w' : World} {D P Wm M : Nat} {st : PS} {vo vj : Value} {r : Except (Int × Nat) (List IV)} {l : List IV} (h : r = .ok l) (hb : Below D w w') (hp : PsAt w' D P Wm M { st with out := l } vo vj) : LandR w D P Wm M st vj r (.returned (.tuple #[])) w' := by
  subst h
  exact ⟨hb, rfl, vo, hp⟩
theorem LaI.below {w W W' : World} {D P Wm M : Nat} {st : PS} {vo vj : Value} {k : Nat} {out : List IV} (h : LaI w D P Wm M st vo vj k out W) (hb : Below W.heap.size W W') : LaI w D P Wm M st vo vj k out W' :=
  ⟨h.low.trans (hb.mono (Nat.le_trans h.ps.lo.1 (Nat.le_of_lt h.ps.bk.lt))), h.ps.below hb, h.eq, h.right, h.jmp, h.len⟩
theorem mod_right {out : List IV} {k : Nat} {i : IV} {o : Int} (h : ∀ x ∈ out, rightP x = true) (hi : out[k]? = some i) (ho : rightP (offI o i) = true) : ∀ x ∈ out.modify k (offI o), rightP x = true := by
  intro x hx
  obtain ⟨q, hq, ex⟩ := List.mem_iff_getElem.1 hx
  rw [List.getElem_modify] at ex
  rw [List.length_modify] at hq
  split at ex
  · next e1 =>
    subst e1
    have e2 : out[k] = i := by rw [List.getElem?_eq_getElem hq] at hi; exact Option.some.inj hi
    rw [← ex, e2]
    exact ho
  · rw [← ex]; exact h _ (List.getElem_mem hq)
theorem mod_jmp {out : List IV} {k : Nat} {o : Int} {js : List Jmp} (h : ∀ j ∈ js, ∃ i, out[j.at_]? = some i ∧ JmpOp i) : ∀ j ∈ js, ∃ i, (out.modify k (offI o))[j.at_]? = some i ∧ JmpOp i := by
  intro q hq
  obtain ⟨i2, h1, h2⟩ := h q hq
  rw [List.getElem?_modify, h1]
  refine ⟨_, rfl, ?_⟩
  by_cases e1 : k = q.at_
  · simp only [e1, if_true]; exact h2
  · simp only [e1, if_false]; exact h2
set_option maxHeartbeats 2000000 in
theorem land_any {P Wm M D : Nat} {st : PS} {vo vj : Value} (w : World) (hp : PsAt w D P Wm M st vo vj) (hi : PI st) (hln : ∀ j ∈ st.jumps, j.line ≤ 1000000) (hto : ∀ j ∈ st.jumps, j.to.length ≤ 1000000) (hmk : ∀ s k, hasM st.marks s = some k → k ≤ 4096) (hsz : st.jumps.length ≤ 4096) : Calls Tryz.prog 28 #[.pointer (some ⟨P, 0, none⟩)] w fun x w' => LandR w D P Wm M st vj (landP st.marks st.out st.jumps) x w' := by
  have H0 : LaI w D P Wm M st vo vj 0 st.out w := ⟨Below.refl _ _, hp, rfl, hi.right, hi.jmp, rfl⟩
  have HI := Lib.hid hi
  have HD := Lib.hid (show D ≤ w.heap.size from Nat.le_trans hp.lo.1 (Nat.le_of_lt hp.bk.lt))
  have HLN := Lib.hid hln
  have HMK := Lib.hid hmk
  have HTO := Lib.hid hto
  generalize hrr : landP st.marks st.out st.jumps = rr at *
  have HRR := Lib.hid hrr
  obtain ⟨Aj, cj, rfl⟩ := own_slice hp.jumps
  have c3 := hp.bk.cell 3
  simp only [List.getElem?_cons_zero, List.getElem?_cons_succ] at c3
  have H0' := Lib.hid H0
  clear H0
  clear hi hln hmk hrr hp hto
  go_enter Tryz.func28, Tryz.ntmps28
  go_wp2_with fail
  go_loopw [12] (fun i wr => ∃ (k : Nat) (out : List IV), k ≤ st.jumps.length ∧ i = .int .i64 k ∧ Hid (LaI w D P Wm M st vo (.slice Aj st.jumps.length cj) k out wr)) (fun i _ => st.jumps.length - (intOf i).toNat)
  case atStart => exact ⟨0, st.out, Nat.zero_le _, rfl, H0'⟩
  case round =>
    obtain ⟨k, out, hk, rfl, HL⟩ := hrel
    clear c3
    by_cases hlt : k < st.jumps.length
    · have d1 : decide ((k : Int) < (st.jumps.length : Int)) = true := decide_eq_true (by omega)
      obtain ⟨j, hj⟩ : ∃ j, st.jumps[k]? = some j := ⟨st.jumps[k], List.getElem?_eq_getElem hlt⟩
      have hdr : st.jumps.drop k = j :: st.jumps.drop (k + 1) := by
        rw [List.drop_eq_getElem_cons hlt]
        rw [List.getElem?_eq_getElem hlt] at hj
        injection hj with hj
        rw [hj]
      obtain ⟨i, hi, hJ⟩ := HL.out.jmp j (by rw [hdr]; exact List.mem_cons_self ..)
      have hlo : j.at_ < out.length := (List.getElem?_eq_some_iff.1 hi).1
      have heq := HL.out.eq
      rw [HRR.out, hdr] at heq
      obtain ⟨gj, cj', ej⟩ := own_form HL.out.ps.jumps (by show 0 < st.jumps.length; omega)
      injection ej with ej1 ej2 ej3
      subst ej1 ej3
      obtain ⟨go, co, rfl⟩ := own_form HL.out.ps.out (by show 0 < out.length; omega)
      obtain ⟨j1, j2, j3⟩ := jm_at HL.out.ps.jumps (Nat.le_refl _) hj
      have HRR0 := Lib.hid HL.out.right
      have HJJ0 := Lib.hid HL.out.jmp
      have HLEN := Lib.hid HL.out.len
      have HRI := Lib.hid (HL.out.right i (List.mem_of_getElem? hi))
      have HJO := Lib.hid hJ
      have HEQ := Lib.hid heq
      have HDR := Lib.hid hdr
      have HII := Lib.hid hi
      clear hdr heq hJ hi
      have q1 : (0 : Int) ≤ (k : Int) := by omega
      have q2 : (k : Int) < (st.jumps.length : Int) := by omega
      have q3 : (0 : Int) ≤ (j.at_ : Int) := by omega
      have q4 : (j.at_ : Int) < (out.length : Int) := by omega
      go_wp2_with fail
      have HB := Lib.hid (Bk.new wr 129 [.int .i64 j.at_, .int .i64 j.line, .string ⟨j.to.toArray⟩])
      have HG := Lib.hid (show go ≠ wr.heap.size by have := (HL.out.ps.lt (b := go) (.inr (.inr (.inr (.inl rfl))))).2; omega)
      have HL := Lib.hid (HL.out.below ((Below.refl _ wr).alloc (Nat.le_refl _) (.cells #[.int .i64 j.at_, .int .i64 j.line, .string ⟨j.to.toArray⟩] 129)))
      clear j1 j2 j3 q1 q2 H0'
      generalize wr.heap.size = J at *
      have HBb : Hid (Bk (wr.alloc (.cells #[.int .i64 j.at_, .int .i64 j.line, .string ⟨j.to.toArray⟩] 129)) J 129 [.int .i64 j.at_, .int .i64 j.line, .string ⟨j.to.toArray⟩]) := HB
      clear HB
      generalize (wr.alloc (.cells #[.int .i64 j.at_, .int .i64 j.line, .string ⟨j.to.toArray⟩] 129)) = wa at *
      have c2 := HL.out.ps.bk.cell 2
      have b2 := HBb.out.cell 2
      have b0 := HBb.out.cell 0
      have p0 := HL.out.ps.bk.cell 0
      simp only [List.getElem?_cons_zero, List.getElem?_cons_succ] at c2 b2 b0 p0
      have o5 := (ins_at HL.out.ps.out (Nat.le_refl _) HII.out (m := 5) (by omega))
      simp only [ivV, List.getElem?_cons_zero, List.getElem?_cons_succ] at o5
      have f5 := HL.out.ps.out.frozenAt (j.at_ * 8 + 5)
      have q5 : (j.at_ : Int) < 4096 := by have := HL.out.len; have := HI.out.len; omega
      have hl := (HL.out.below (Below.drew (Below.refl _ wa))).ps.marks.look2 markTy j.to (HTO.out j (List.mem_of_getElem? hj)) zeroInt
      unfold nmV at hl
      have HE2 := Lib.hid (show landP st.marks out (j :: st.jumps.drop (k + 1)) = match hasM st.marks j.to with
        | none => .error (121, j.line)
        | some a => if inI ((a : Int) - j.at_ - 1) (-32768) 32767 then landP st.marks (out.modify j.at_ (offI ((a : Int) - j.at_ - 1))) (st.jumps.drop (k + 1)) else .error (121, j.line) from by
          rw [landP]
          cases hasM st.marks j.to <;> rfl)
      cases hm : hasM st.marks j.to with
      | none =>
        rw [hm] at hl HE2
        simp only [Option.map_none, Option.getD_none, Option.isSome_none] at hl HE2
        have jl := HBb.out.cell 1
        simp only [List.getElem?_cons_zero, List.getElem?_cons_succ] at jl
        have hne : ¬ go = J := HG.out
        have hne2 : ¬ J = go := fun e => HG.out e.symm
        have q6 : (j.line : Int) ≤ 1000000 := by have := HLN.out j (List.mem_of_getElem? hj); omega
        go_region
        all_goals
          go_wp2_with fail
          go_region
          all_goals
            go_wp2_with fail
            (with_reducible refine (throw_any 121 j.line _).mono ?_)
            rintro _ wq ⟨rfl, rfl⟩
            refine ⟨rfl, ?_⟩
            exact LandR.err (m := j.line) (HEQ.out.trans HE2.out) (((HL.out.low.setCell (HL.out.ps.lt (b := go) (.inr (.inr (.inr (.inl rfl))))).1 _).drew).drew)
      | some a =>
        rw [hm] at hl HE2
        simp only [Option.map_some, Option.getD_some, Option.isSome_some] at hl HE2
        have q6 : (a : Int) ≤ 4096 := by have := HMK.out j.to a hm; omega
        have q7 : (0 : Int) ≤ (a : Int) := by omega
        go_region
        all_goals
          go_wp2_with fail
          go_region
          all_goals
            go_upto_region 6 with fail
            have HT := Lib.hid (HL.out.ps.turned j.at_ ((a : Int) - j.at_ - 1))
            have HL2 := Lib.hid ((HL.out.low.setCell (HL.out.ps.lt (b := go) (.inr (.inr (.inr (.inl rfl))))).1 (p := ⟨go, j.at_ * 8 + 5, none⟩) (.int .i64 ((a : Int) - j.at_ - 1))).drew.drew)
            have HBs : Hid (Bk (wa.setCell ⟨go, j.at_ * 8 + 5, none⟩ (.int .i64 ((a : Int) - j.at_ - 1))).drew.drew J 129 [.int .i64 j.at_, .int .i64 j.line, .string ⟨j.to.toArray⟩]) := Lib.hid ((Below.heap_setCell wa _ _ J (fun e => HG.out e.symm)).trans HBb.out)
            have HT2 := Lib.hid (HT.out.below (Below.drew (Below.drew (Below.refl _ _))))
            have HI2 := Lib.hid (show (out.modify j.at_ (offI ((a : Int) - j.at_ - 1)))[j.at_]? = some (offI ((a : Int) - j.at_ - 1) i) by rw [List.getElem?_modify, HII.out]; simp)
            clear HT HBb HL c2 b2 b0 p0 o5 f5 hl
            generalize (wa.setCell ⟨go, j.at_ * 8 + 5, none⟩ (.int .i64 ((a : Int) - j.at_ - 1))).drew.drew = ws at *
            have hO : ws.ownsRow D 40 8 (.slice (some ⟨go, 0, none⟩) out.length co) out.length (outC (out.modify j.at_ (offI ((a : Int) - j.at_ - 1)))) := by
              have := HT2.out.out
              simpa only [List.length_modify] using this
            have cs := fun m (hm : m < 8) => ins_at hO (by rw [List.length_modify]; exact Nat.le_refl _) HI2.out hm
            clear hO
            have s0 := cs 0 (by omega)
            have s1 := cs 1 (by omega)
            have s2 := cs 2 (by omega)
            have s3 := cs 3 (by omega)
            have s4 := cs 4 (by omega)
            have s5 := cs 5 (by omega)
            have s6 := cs 6 (by omega)
            have s7 := cs 7 (by omega)
            clear cs
            have HRT := right_any (offI ((a : Int) - j.at_ - 1) i)
            have HEQ2 := Lib.hid (HEQ.out.trans HE2.out)
            clear HE2 HEQ
            generalize (a : Int) - j.at_ - 1 = o at *
            have HRG := Lib.hid (mod_right (o := o) HRR0.out HII.out)
            cases hin : inI o (-32768) 32767 with
            | true =>
              have hri : rightP (offI o i) = true := right_off HRI.out HJO.out hin
              have HRG2 := Lib.hid (HRG.out hri)
              have HEQ3 : Hid (rr = landP st.marks (out.modify j.at_ (offI o)) (st.jumps.drop (k + 1))) := Lib.hid (by have := HEQ2.out; rw [hin] at this; exact this)
              rw [hri] at HRT
              have HLA := Lib.hid (fun (W : World) (hb : Below ws.heap.size ws W) => LaI.below (W' := W) (show LaI w D P Wm M st (.slice (some ⟨go, 0, none⟩) out.length co) (.slice (some ⟨gj, 0, none⟩) st.jumps.length cj) (k + 1) (out.modify j.at_ (offI o)) ws from ⟨HL2.out, HT2.out, HRR.out.trans HEQ3.out, HRG2.out, mod_jmp (fun q hq => HJJ0.out q (by rw [HDR.out]; exact List.mem_cons_of_mem _ hq)), by rw [List.length_modify]; exact HLEN.out⟩) hb)
              clear hri hin HRG HRG2 HEQ3 HEQ2 HT2 HL2 HBs HI2
              obtain ⟨i1, i2, i3, i4, i5, i6, i7, i8⟩ := i
              simp only [ivV, offI, List.getElem?_cons_zero, List.getElem?_cons_succ, Nat.add_zero] at s0 s1 s2 s3 s4 s5 s6 s7 HRT
              go_wp2_with fail
              (with_reducible refine (HRT _).mono ?_)
              rintro _ wz ⟨rfl, bz⟩
              have HF := Lib.hid (HLA.out _ bz)
              clear HRT HLA s0 s1 s2 s3 s4 s5 s6 s7 bz
              go_wp2_with fail
              go_roundw
              case rel => exact ⟨k + 1, _, by omega, by go_num, HF⟩
              case measure => simp [intOf]; omega
            | false =>
              have hri : rightP (offI o i) = false := right_off_no HJO.out hin
              rw [hri] at HRT
              have HEQ3 : Hid (rr = .error (121, j.line)) := Lib.hid (by have := HEQ2.out; rw [hin] at this; exact this)
              clear hri hin HRG HEQ2 HT2 HI2
              obtain ⟨i1, i2, i3, i4, i5, i6, i7, i8⟩ := i
              simp only [ivV, offI, List.getElem?_cons_zero, List.getElem?_cons_succ, Nat.add_zero] at s0 s1 s2 s3 s4 s5 s6 s7 HRT
              go_wp2_with fail
              (with_reducible refine (HRT _).mono ?_)
              rintro _ wz ⟨rfl, bz⟩
              have jl := (HBs.out.below bz HBs.out.lt).cell 1
              simp only [List.getElem?_cons_zero, List.getElem?_cons_succ] at jl
              have HF := Lib.hid (HL2.out.trans (bz.mono (Nat.le_trans HD.out HL2.out.size)))
              clear HRT s0 s1 s2 s3 s4 s5 s6 s7 bz HBs HL2
              go_wp2_with fail
              (with_reducible refine (throw_any 121 j.line _).mono ?_)
              rintro _ wq ⟨rfl, rfl⟩
              refine ⟨rfl, ?_⟩
              exact LandR.err (m := j.line) HEQ3.out HF.out
    · have d1 : decide ((k : Int) < (st.jumps.length : Int)) = false := decide_eq_false (by omega)
      have hdr : st.jumps.drop k = [] := List.drop_eq_nil_of_le (by omega)
      have HE := Lib.hid (show rr = .ok out by have := HL.out.eq; rw [HRR.out, hdr] at this; simpa [landP] using this)
      clear hdr
      go_wp2_with fail
      first
        | exact bodyPost_end (v := .tuple #[]) (by simp [results, Tryz.results28, go_sem]) rfl (LandR.ok HE.out HL.out.low HL.out.ps)
        | exact bodyPost_ret (v := .tuple #[]) (by simp [results, Tryz.results28, go_sem]) rfl (LandR.ok HE.out HL.out.low HL.out.ps)
end Go.Proofs.YtjebjninlejoeaaGreatDoor
namespace Go.Proofs.YtjebjninlejoeaaGreatDoor
open Go.RowKit Go.Maps Go.ChangeMaps Go.Shelf
set_option linter.unusedVariables false
set_option linter.unusedSimpArgs false
set_option linter.unusedSectionVars false
set_option maxRecDepth 100000

/-- What Parse tells. -/
def ParR (w : World) (r : Except (Int × Nat) (List IV)) (x : Ending) (w' : World) : Prop :=
  Below w.heap.size w w' ∧ match r with
  | .error e => x = .returned (.tuple #[.slice none 0 0, ftV e.1 (e.2 : Nat)])
  | .ok l => ∃ vo, x = .returned (.tuple #[vo, ftV 0 0]) ∧ w'.ownsRow w.heap.size 40 8 vo l.length (outC l)
theorem ParR.err {w w' : World} {r : Except (Int × Nat) (List IV)} {e : Int} {m : Nat} (h : r = .error (e, m)) (hb : Below w.heap.size w w') : ParR w r (.returned (.tuple #[.slice none 0 0, ftV e (m : Nat)])) w' := by
  subst h
  exact ⟨hb, rfl⟩
theorem leave_parse (L F : Nat) (v : Value) (e n : Int) (tmps : Array Value) (W : World) (hL : W.cell? ⟨L, 0, none⟩ = some v) (hF : W.cell? ⟨F, 0, none⟩ = some (.int .i64 e) ∧ W.cell? ⟨F, 1, none⟩ = some (.int .i64 n)) (h2 : tmps.getD 2 undef = .pointer (some ⟨L, 0, none⟩)) (h3 : tmps.getD 3 undef = .pointer (some ⟨F, 0, none⟩)) : (results Tryz.f9 tmps).run Tryz.prog W = .ok (.tuple #[v, ftV e n]) W := by
  obtain ⟨f0, f1⟩ := hF
  have h2' : tmps[2]?.getD undef = .pointer (some ⟨L, 0, none⟩) := by simpa using h2
  have h3' : tmps[3]?.getD undef = .pointer (some ⟨F, 0, none⟩) := by simpa using h3
  simp [results, Tryz.results9, go_sem, h2', h3', hL, f0, f1, ftV]
set_option maxHeartbeats 2000000 in
theorem parse_long (s : Nm) (hs : 262144 < s.length) (hs2 : s.length ≤ 1000000000) (w : World) : Calls Tryz.prog 9 #[.string ⟨s.toArray⟩] w fun x w' => ParR w (parseP s) x w' := by
  have HE := Lib.hid (show parseP s = .error (3, 0) by unfold parseP; rw [if_pos hs])
  have hx : (((⟨s.toArray⟩ : ByteArray).size : Nat) : Int) = (s.length : Int) := by show ((s.toArray.size : Nat) : Int) = _; simp
  have d1 : decide ((262144 : Int) < (s.length : Int)) = true := decide_eq_true (by omega)
  have q1 : (262144 : Int) < (s.length : Int) := by omega
  go_enter_defers Tryz.func9, Tryz.ntmps9
  go_wp2_with fail
  have hL := ((Bk.new w 23 [.slice none 0 0]).below ((Below.refl _ _).alloc (Nat.le_refl _) (.cells #[.int .i64 3, .int .i64 0] 26)) (by simp)).cell 0
  have hF := Bk.new (w.alloc (.cells #[.slice none 0 0] 23)) 26 [.int .i64 3, .int .i64 0]
  have hz : (w.alloc (.cells #[.slice none 0 0] 23)).heap.size = w.heap.size + 1 := by simp
  rw [hz] at hF
  refine ⟨_, leave_parse w.heap.size (w.heap.size + 1) (.slice none 0 0) 3 0 _ _ hL ⟨hF.cell 0, hF.cell 1⟩ rfl rfl, ?_⟩
  exact ParR.err (m := 0) HE.out (((Below.refl _ w).alloc (Nat.le_refl _) _).alloc (by simp) _)
def lsC (ls : List Nm) : List Value := ls.map fun l => .string ⟨l.toArray⟩
theorem split_lines_any (s : Nm) (hs : s.length ≤ 262144) {B : Nat} (w : World) (hv : Tv B w) : Calls Tryz.prog 21 #[.string ⟨s.toArray⟩, .string ⟨#[10]⟩] w fun e w' => e = .returned (.slice (some ⟨w.heap.size, 0, none⟩) (linesP s).length (linesP s).length) ∧ w' = w.alloc (.cells (lsC (linesP s)).toArray 9) := by
  obtain ⟨m, hm⟩ := hv.ml
  refine (Tryz.strings_Split ⟨s.toArray⟩ ⟨#[10]⟩ m w (by show s.toArray.size < _; simp; omega) hm (by decide)).mono ?_
  rintro e w' ⟨h1, h2⟩
  have e1 : (⟨s.toArray⟩ : ByteArray).data.toList = s := by simp
  have e2 : Lib.countB ⟨s.toArray⟩ ⟨#[10]⟩ + 1 = (linesP s).length := by rw [count_is, lines_len, e1]
  refine ⟨by rw [h1, e2], ?_⟩
  rw [h2, split_is, e1, List.map_map]
  rfl
theorem parse_cells {W : World} {L F : Nat} {v : Value} (v' : Value) (e n : Int) (hF : Bk W F 26 [.int .i64 0, .int .i64 0]) (hL : Bk W L 23 [v]) (hne : F ≠ L) :
    Bk (((W.setCell ⟨F, 0, none⟩ (.int .i64 e)).setCell ⟨F, 1, none⟩ (.int .i64 n)).setCell ⟨L, 0, none⟩ v') L 23 [v'] ∧ Bk (((W.setCell ⟨F, 0, none⟩ (.int .i64 e)).setCell ⟨F, 1, none⟩ (.int .i64 n)).setCell ⟨L, 0, none⟩ v') F 26 [.int .i64 e, .int .i64 n] := by
  have f2 := (hF.set 0 (.int .i64 e)).set 1 (.int .i64 n)
  have l2 : Bk ((W.setCell ⟨F, 0, none⟩ (.int .i64 e)).setCell ⟨F, 1, none⟩ (.int .i64 n)) L 23 [v] := (Below.heap_setCell _ _ _ L (fun q => hne q.symm)).trans ((Below.heap_setCell _ _ _ L (fun q => hne q.symm)).trans hL)
  exact ⟨l2.set 0 v', (Below.heap_setCell _ _ _ F hne).trans f2⟩
theorem parse_cells2 {W : World} {L F : Nat} {v : Value} (v' : Value) (e n : Int) (hF : Bk W F 26 [.int .i64 0, .int .i64 0]) (hL : Bk W L 23 [v]) (hne : F ≠ L) :
    Bk (((W.setCell ⟨L, 0, none⟩ v').setCell ⟨F, 0, none⟩ (.int .i64 e)).setCell ⟨F, 1, none⟩ (.int .i64 n)) L 23 [v'] ∧ Bk (((W.setCell ⟨L, 0, none⟩ v').setCell ⟨F, 0, none⟩ (.int .i64 e)).setCell ⟨F, 1, none⟩ (.int .i64 n)) F 26 [.int .i64 e, .int .i64 n] := by
  have l2 := hL.set 0 v'
  have f1 : Bk (W.setCell ⟨L, 0, none⟩ v') F 26 [.int .i64 0, .int .i64 0] := (Below.heap_setCell _ _ _ F hne).trans hF
  exact ⟨(Below.heap_setCell _ _ _ L (fun q => hne q.symm)).trans ((Below.heap_setCell _ _ _ L (fun q => hne q.symm)).trans l2), (f1.set 0 (.int .i64 e)).set 1 (.int .i64 n)⟩
theorem own_low {w : World} {base base' size n : Nat} {e : TypeId} {v : Value} {xs : List Value} (h : w.ownsRow base e size v n xs) (hb : base' ≤ base) : w.ownsRow base' e size v n xs := by
  refine ⟨h.1, ?_⟩
  rcases h.2 with h0 | ⟨g, cap, cur, hv, hb2, r⟩
  · exact .inl h0
  · exact .inr ⟨g, cap, cur, hv, Nat.le_trans hb hb2, r⟩
/-- Parse under way, ahead of line k. -/
structure PaI (w0 : World) (D P Wm M S : Nat) (ls : List Nm) (k : Nat) (st : PS) (vo vj : Value) (W : World) : Prop where
  ps : PsAt W D P Wm M st vo vj
  low : Below D w0 W
  row : Bk W S 9 (lsC ls)
  qi : QI st (k + 1)
  eq : runP ps0 1 ls = runP st (k + 1) (ls.drop k)
theorem parse_start {w0 w1 : World} {m : Nat} (hM : Mf w1 m (fun s => (wayP s).map kV)) (hb : Below w0.heap.size w0 w1) (hm : w0.heap.size ≤ m) :
    PsAt ((w1.alloc (.map #[] 0)).alloc (.cells #[.slice none 0 0, .map (some m), .map (some w1.heap.size), .slice none 0 0] 58)) w0.heap.size (w1.heap.size + 1) m w1.heap.size ps0 (.slice none 0 0) (.slice none 0 0) ∧
    Below w0.heap.size w0 ((w1.alloc (.map #[] 0)).alloc (.cells #[.slice none 0 0, .map (some m), .map (some w1.heap.size), .slice none 0 0] 58)) := by
  have hz : (w1.alloc (.map #[] 0)).heap.size = w1.heap.size + 1 := by simp
  have hs := hb.size
  have hlt := hM.lt
  have hbk := Bk.new (w1.alloc (.map #[] 0)) 58 [.slice none 0 0, .map (some m), .map (some w1.heap.size), .slice none 0 0]
  rw [hz] at hbk
  refine ⟨⟨hbk, World.ownsRow_nil _ _ _ _, World.ownsRow_nil _ _ _ _, (hM.keep (Below.heap_alloc w1 _ m hlt)).keep (Below.heap_alloc _ _ m (by omega)), (mf_new w1).keep (Below.heap_alloc _ _ w1.heap.size (by omega)), ⟨by omega, hm, hs⟩, ⟨by omega, by omega, by omega⟩, fun g h => (by cases h), fun g h => (by cases h)⟩, (hb.alloc hs _).alloc (by omega) _⟩
set_option maxHeartbeats 4000000 in
theorem parse_short (s : Nm) (hs : s.length ≤ 262144) {B : Nat} (w : World) (hv : Tv B w) (hB : B ≤ w.heap.size) : Calls Tryz.prog 9 #[.string ⟨s.toArray⟩] w fun x w' => ParR w (parseP s) x w' := by
  have HE := Lib.hid (show (∀ e, runP ps0 1 (linesP s) = .error e → parseP s = .error e) ∧ (∀ st, runP ps0 1 (linesP s) = .ok st → parseP s = landP st.marks st.out st.jumps) from ⟨fun e h => by unfold parseP; rw [if_neg (by omega), h], fun st h => by unfold parseP; rw [if_neg (by omega), h]⟩)
  generalize parseP s = rr at *
  have hx : (((⟨s.toArray⟩ : ByteArray).size : Nat) : Int) = (s.length : Int) := by show ((s.toArray.size : Nat) : Int) = _; simp
  have d1 : decide ((262144 : Int) < (s.length : Int)) = false := decide_eq_false (by omega)
  have q1 : ¬ (262144 : Int) < (s.length : Int) := by omega
  have hmf : ∀ (fn : Fn) (first cap : Array Value) (w : World), (Instr.makeFunc fn first cap).run Tryz.prog w = .ok (.func fn first cap) w := fun _ _ _ _ => rfl
  have hmm := @run_makeMap Tryz.prog
  have HL := Lib.hid (show Bk ((w.alloc (.cells #[.slice none 0 0] 23)).alloc (.cells #[.int .i64 0, .int .i64 0] 26)) w.heap.size 23 [.slice none 0 0] from (Bk.new w 23 [.slice none 0 0]).below ((Below.refl _ _).alloc (Nat.le_refl _) (.cells #[.int .i64 0, .int .i64 0] 26)) (by simp))
  have HF := Lib.hid (Bk.new (w.alloc (.cells #[.slice none 0 0] 23)) 26 [.int .i64 0, .int .i64 0])
  have hz : (w.alloc (.cells #[.slice none 0 0] 23)).heap.size = w.heap.size + 1 := by simp
  rw [hz] at HF
  have HB0 := Lib.hid (((Below.refl _ w).alloc (Nat.le_refl _) (.cells #[.slice none 0 0] 23)).alloc (by simp) (.cells #[.int .i64 0, .int .i64 0] 26))
  have hz0 : ((w.alloc (.cells #[.slice none 0 0] 23)).alloc (.cells #[.int .i64 0, .int .i64 0] 26)).heap.size = w.heap.size + 2 := by simp
  have HZ0 := Lib.hid hz0
  clear hz hz0
  go_enter_defers Tryz.func9, Tryz.ntmps9
  go_wp2_with fail
  generalize ((w.alloc (.cells #[.slice none 0 0] 23)).alloc (.cells #[.int .i64 0, .int .i64 0] 26)) = w0 at *
  (with_reducible refine (ways_any w0 (hv.below HB0.out hB) (by have := HZ0.out; omega)).mono ?_)
  rintro _ w1 ⟨m, rfl, hm, hM, hb⟩
  have HM := Lib.hid hM
  have HB1 := Lib.hid hb
  have HMZ := Lib.hid hm
  clear hM hb hm
  go_wp2_with fail
  obtain ⟨hP0, hb3⟩ := parse_start HM.out HB1.out HMZ.out
  have hL3 := HL.out.below hb3 (by have := HZ0.out; omega)
  have hv3 := (hv.below HB0.out hB).below hb3 (by have := HZ0.out; omega)
  have HP0 := Lib.hid hP0
  have HB3 := Lib.hid hb3
  have HV3 := Lib.hid hv3
  have HPM := Lib.hid HM.out.lt
  clear hP0 hb3 hL3 hv3 HM HB1
  generalize ((w1.alloc (.map #[] 0)).alloc (.cells #[.slice none 0 0, .map (some m), .map (some w1.heap.size), .slice none 0 0] 58)) = w3 at *
  (with_reducible refine (split_lines_any s hs w3 HV3.out).mono ?_)
  rintro _ w4 ⟨rfl, rfl⟩
  have HI0 := Lib.hid (show PaI w0 w0.heap.size (w1.heap.size + 1) m w1.heap.size w3.heap.size (linesP s) 0 ps0 (.slice none 0 0) (.slice none 0 0) (w3.alloc (.cells (lsC (linesP s)).toArray 9)) from ⟨HP0.out.below ((Below.refl _ _).alloc (Nat.le_refl _) _), HB3.out.alloc HB3.out.size _, Bk.new w3 9 (lsC (linesP s)), qi0 1, rfl⟩)
  have HSH := Lib.hid (fun l (hl : l ∈ linesP s) => lines_short s [] l hl)
  have hln : (linesP s).length ≤ 262145 := by rw [lines_len]; have := List.count_le_length (a := (10 : UInt8)) (l := s); omega
  have HC := Lib.hid (fun (e n : Int) (k : Nat) (W : World) (hn : n = (k : Int)) (hW : Below w0.heap.size w0 W) (hr : rr = .error (e, k)) => parse_caught (F := w.heap.size + 1) (L := w.heap.size) (v := .slice none 0 0) e n W (HF.out.below hW (by have := HZ0.out; omega)) (HL.out.below hW (by have := HZ0.out; omega)) (by omega))
  generalize linesP s = ls at *
  generalize w3.heap.size = S at *
  generalize hM0 : w1.heap.size = M at *
  clear HP0 HB3 HV3 hM0
  go_wp2_with fail
  go_loopw [19] (fun i wr => ∃ (k : Nat) (st : PS) (vo vj : Value), k ≤ ls.length ∧ i = .int .i64 k ∧ Hid (PaI w0 w0.heap.size (M + 1) m M S ls k st vo vj wr)) (fun i _ => ls.length - (intOf i).toNat)
  case atStart => exact ⟨0, ps0, _, _, Nat.zero_le _, rfl, HI0⟩
  case round =>
    clear HI0
    obtain ⟨k, st, vo, vj, hk, rfl, HI⟩ := hrel
    by_cases hlt : k < ls.length
    · have d2 : decide ((k : Int) < (ls.length : Int)) = true := decide_eq_true (by omega)
      obtain ⟨l, hl⟩ : ∃ l, ls[k]? = some l := ⟨ls[k], List.getElem?_eq_getElem hlt⟩
      have hll := HSH.out l (List.mem_of_getElem? hl)
      simp only [List.length_nil, Nat.zero_add] at hll
      have c0 := HI.out.row.cell k
      rw [lsC, List.getElem?_map, hl] at c0
      simp only [Option.map_some] at c0
      have q2 : (0 : Int) ≤ (k : Int) := by omega
      have q3 : (k : Int) < (ls.length : Int) := by omega
      have hLA := line_any l (by omega) (k + 1) ((k : Int) + 1) (by omega) wr ((hv.below HB0.out hB).below HI.out.low (by have := HZ0.out; omega)) (Nat.le_trans hB (by have := HI.out.low.size; have := HZ0.out; omega)) HI.out.ps ⟨HI.out.qi.pi.len, Nat.le_trans HI.out.qi.jl HI.out.qi.pi.len⟩
      have HR := Lib.hid (run_drop (n := k + 1) (st := st) hl)
      have HQ := Lib.hid (fun st' (h : stepP st (k + 1) l = .ok st') => HI.out.qi.step h)
      generalize stepP st (k + 1) l = sr at *
      have HLT := Lib.hid hll
      clear hl hll
      go_wp2_with fail
      (with_reducible refine hLA.mono ?_)
      rintro x w5 ⟨hLo, hx⟩
      cases sr with
      | error e =>
        obtain ⟨e, q⟩ := e
        subst hx
        have HRR := Lib.hid (HE.out.1 (e, q) (HI.out.eq.trans HR.out))
        have HBW := Lib.hid (HI.out.low.trans hLo.bl)
        clear hLA hLo HI
        unfold Thrown
        refine leaves_cons (f := 25) (args := #[.pointer (some ⟨w.heap.size + 1, 0, none⟩), .pointer (some ⟨w.heap.size, 0, none⟩)]) (by simp) (by simp [go_sem]) ?_
        refine (HC.out e q q w5 rfl HBW.out HRR.out).mono ?_
        rintro _ _ w6 ⟨rfl, rfl, rfl⟩
        have hF := HF.out.below HBW.out (by have := HZ0.out; omega)
        have hL := HL.out.below HBW.out (by have := HZ0.out; omega)
        obtain ⟨hL2, hF2⟩ := parse_cells (.slice none 0 0) e q hF hL (by omega)
        show Leaves Tryz.prog Tryz.f9 _ _ [] .returning _
        exact ⟨_, leave_parse w.heap.size (w.heap.size + 1) (.slice none 0 0) e q _ _ (hL2.cell 0) ⟨hF2.cell 0, hF2.cell 1⟩ rfl rfl, ParR.err HRR.out ((((HB0.out.trans (HBW.out.mono (by have := HZ0.out; omega))).setCell (by show w.heap.size ≤ w.heap.size + 1; omega) _).setCell (by show w.heap.size ≤ w.heap.size + 1; omega) _).setCell (Nat.le_refl _) _)⟩
      | ok st' =>
        obtain ⟨rfl, vo', vj', hps⟩ := hx
        have HI' := Lib.hid (show PaI w0 w0.heap.size (M + 1) m M S ls (k + 1) st' vo' vj' w5 from ⟨hps, HI.out.low.trans hLo.bl, (hLo.k9 S _ _ HI.out.row).trans HI.out.row, HQ.out st' rfl, HI.out.eq.trans HR.out⟩)
        clear hLA hLo HI hps c0
        go_wp2_with fail
        go_roundw
        case rel => exact ⟨k + 1, st', vo', vj', by omega, by go_num, HI'⟩
        case measure => simp [intOf]; omega
    · have d2 : decide ((k : Int) < (ls.length : Int)) = false := decide_eq_false (by omega)
      have hdr : ls.drop k = [] := List.drop_eq_nil_of_le (by omega)
      have HRR := Lib.hid (HE.out.2 st (by rw [HI.out.eq, hdr]; rfl))
      have hLA := land_any wr HI.out.ps HI.out.qi.pi (fun j hj => by have := HI.out.qi.line j hj; omega) (fun j hj => by have := HI.out.qi.to_ j hj; omega) (fun s k h => HI.out.qi.marks h) (Nat.le_trans HI.out.qi.jl HI.out.qi.pi.len)
      rw [← HRR.out] at hLA
      clear hdr
      go_wp2_with fail
      (with_reducible refine hLA.mono ?_)
      rintro x w5 ⟨hLo, hx⟩
      have HBW := Lib.hid (HI.out.low.trans hLo)
      have hF := HF.out.below HBW.out (by have := HZ0.out; omega)
      have hL := HL.out.below HBW.out (by have := HZ0.out; omega)
      cases rr with
      | error e =>
        obtain ⟨e, q⟩ := e
        subst hx
        clear hLA hLo HI
        unfold Thrown
        refine leaves_cons (f := 25) (args := #[.pointer (some ⟨w.heap.size + 1, 0, none⟩), .pointer (some ⟨w.heap.size, 0, none⟩)]) (by simp) (by simp [go_sem]) ?_
        refine (HC.out e q q w5 rfl HBW.out rfl).mono ?_
        rintro _ _ w6 ⟨rfl, rfl, rfl⟩
        obtain ⟨hL2, hF2⟩ := parse_cells (.slice none 0 0) e q hF hL (by omega)
        show Leaves Tryz.prog Tryz.f9 _ _ [] .returning _
        exact ⟨_, leave_parse w.heap.size (w.heap.size + 1) (.slice none 0 0) e q _ _ (hL2.cell 0) ⟨hF2.cell 0, hF2.cell 1⟩ rfl rfl, ParR.err rfl ((((HB0.out.trans (HBW.out.mono (by have := HZ0.out; omega))).setCell (by show w.heap.size ≤ w.heap.size + 1; omega) _).setCell (by show w.heap.size ≤ w.heap.size + 1; omega) _).setCell (Nat.le_refl _) _)⟩
      | ok l =>
        obtain ⟨rfl, vo', hps⟩ := hx
        obtain ⟨A9, c9, rfl⟩ := own_slice hps.out
        have HPS := Lib.hid hps
        have p0 := hps.bk.cell 0
        have l0 := hL.cell 0
        have g0 := hF.cell 0
        have g1 := hF.cell 1
        have z0 := hL.frozen 0
        have z1 := hF.frozen 0
        have z2 := hF.frozen 1
        simp only [List.getElem?_cons_zero, List.getElem?_cons_succ] at p0 l0 g0 g1
        have HF5 := Lib.hid hF
        have HL5 := Lib.hid hL
        clear hLA hLo HI hps hF hL
        go_wp2_with fail
        refine leaves_cons (f := 25) (args := #[.pointer (some ⟨w.heap.size + 1, 0, none⟩), .pointer (some ⟨w.heap.size, 0, none⟩)]) (by simp) (by simp [go_sem]) ?_
        refine (parse_idle _ _ _).mono ?_
        rintro _ _ w6 ⟨rfl, rfl, rfl⟩
        obtain ⟨hL2, hF2⟩ := parse_cells2 (.slice A9 l.length c9) 0 0 HF5.out HL5.out (by omega)
        have hbl := fun g q => (HPS.out.out.lt g q).1
        refine ⟨_, leave_parse w.heap.size (w.heap.size + 1) (.slice A9 l.length c9) 0 0 _ _ (hL2.cell 0) ⟨hF2.cell 0, hF2.cell 1⟩ rfl rfl, (((HB0.out.trans (HBW.out.mono (by have := HZ0.out; omega))).setCell (Nat.le_refl _) _).setCell (by show w.heap.size ≤ w.heap.size + 1; omega) _).setCell (by show w.heap.size ≤ w.heap.size + 1; omega) _, .slice A9 l.length c9, rfl, ?_⟩
        refine own_low ?_ (show w.heap.size ≤ w0.heap.size by have := HZ0.out; omega)
        exact own_set (own_set (own_set HPS.out.out (fun g q e => by have := hbl g q; have := HZ0.out; have e : g = w.heap.size := e; omega)) (fun g q e => by have := hbl g q; have := HZ0.out; have e : g = w.heap.size + 1 := e; omega)) (fun g q e => by have := hbl g q; have := HZ0.out; have e : g = w.heap.size + 1 := e; omega)
theorem parse_any (s : Nm) (hs : s.length ≤ 1000000000) {B : Nat} (w : World) (hv : Tv B w) (hB : B ≤ w.heap.size) : Calls Tryz.prog 9 #[.string ⟨s.toArray⟩] w fun x w' => ParR w (parseP s) x w' := by
  by_cases h : s.length ≤ 262144
  · exact parse_short s h w hv hB
  · exact parse_long s (by omega) hs w
end Go.Proofs.YtjebjninlejoeaaGreatDoor
