/- text, the plain law: tokens are no longer than their line; a line adds one at most. text, the walk: any line. text, the walk: Parse's deferred function. text, the walk: parser.land. text, the plain law: what holds of a text that is being read. text, the walk: Parse. text, the walk: rows of instructions, alike or not; Show of any. text, the walk: awake. text, the walk: TextBack. text, the plain law: one text behind another, as it is put together. text, the walk: TextRows. text: what the rows' lists give; instructions that come in. -/
import Derived.Test.YtjebjninlejoeaaGreatDoorP9
import Derived.Test.YtjebjninlejoeaaGreatDoorX33
import Derived.Test.YtjebjninlejoeaaGreatDoorX35
import Derived.Recover
import Derived.Defers
import Derived.Laws.Pointers
import Derived.Shelf.Abstract
import Derived.Test.YtjebjninlejoeaaGreatDoorX22
import Derived.Deep.QuietTactic
import Derived.BigQuiet
import Derived.Lib.Replace
import Derived.StillTailTactics
import Derived.Test.YtjebjninlejoeaaGreatDoorRows
import Derived.Test.YtjebjninlejoeaaGreatDoorTie
import Derived.Test.YtjebjninlejoeaaGreatDoorX1
import Derived.Test.YtjebjninlejoeaaGreatDoorX21
import Derived.Lib.LaidTab
import Derived.Lib.LaidU8
import Derived.LaidMore
import Derived.ProofKit
import Derived.MakeChecks
import Derived.Stop.Joined
import Derived.HandedShaped
import Derived.Lay
import Derived.OpenShut
import Derived.ShutString
import Derived.Deep.Slices
import Derived.ChangeArms
import Derived.ChangeMaps5
namespace Go.Proofs.YtjebjninlejoeaaGreatDoor
set_option linter.unusedVariables false
set_option linter.unusedSimpArgs false

theorem toks_shortA (N : Nat) : ∀ (s cur : Nm) (l : List Nm), cur.length + s.length ≤ N → 1 ≤ N ∨ s = [] → toksA cur s = some l → ∀ t ∈ l, t.length ≤ N
  | [], cur, l, hn, _, h, t, ht => by
    simp only [toksA, flush] at h
    split at h
    · injection h with h; subst h; cases ht
    · next h0 => simp at h; subst h; simp at ht; subst ht; simpa using hn
  | d :: s, cur, l, hn, hN, h, t, ht => by
    simp only [List.length_cons] at hn
    have h1N : 1 ≤ N := by omega
    have fl : ∀ r : Option (List Nm), flush cur r = some l → (∀ l', r = some l' → ∀ t ∈ l', t.length ≤ N) → t.length ≤ N := by
      intro r hr hk
      unfold flush at hr
      split at hr
      · exact hk l hr t ht
      · next h0 =>
        obtain ⟨l', h1, h2⟩ := Option.map_eq_some_iff.1 hr
        subst h2
        rcases List.mem_cons.1 ht with rfl | ht
        · omega
        · exact hk l' h1 t ht
    simp only [toksA] at h
    split at h
    · exact fl _ h (fun l' e => by injection e with e; subst e; intro t ht; cases ht)
    · split at h
      · exact toks_shortA N s _ l (by simp; omega) (.inl h1N) h t ht
      · split at h
        · exact fl _ h fun l' e => toks_shortA N s [] l' (by simp; omega) (.inl h1N) e
        · split at h
          · refine fl _ h fun l' e => ?_
            obtain ⟨l2, h1, h2⟩ := Option.map_eq_some_iff.1 e
            subst h2
            intro t ht
            rcases List.mem_cons.1 ht with rfl | ht
            · exact h1N
            · exact toks_shortA N s [] l2 (by simp; omega) (.inl h1N) h1 t ht
          · cases h
theorem toks_short {s : Nm} {l : List Nm} (h : toks s = some l) : ∀ t ∈ l, t.length ≤ s.length := by
  cases s with
  | nil => exact toks_shortA 0 [] [] l (by simp) (.inr rfl) h
  | cons a s => exact toks_shortA _ (a :: s) [] l (by simp) (.inl (by simp)) h
/-- No more jumps than instructions. -/
theorem step_jlen {st st' : PS} {n : Nat} {s : List UInt8} (e : stepP st n s = .ok st') (h : st.jumps.length ≤ st.out.length) : st'.jumps.length ≤ st'.out.length := by
  unfold stepP at e
  split at e
  · cases e
  · injection e with e; subst e; exact h
  · split at e
    · split at e
      · cases e
      · injection e with e; subst e; exact h
    · split at e
      · cases e
      · split at e
        · split at e
          · cases e
          · injection e with e
            subst e
            simp only [List.length_append, List.length_cons, List.length_nil]
            split <;> simp <;> omega
        · cases e
end Go.Proofs.YtjebjninlejoeaaGreatDoor
namespace Go.Proofs.YtjebjninlejoeaaGreatDoor
open Go.RowKit Go.Maps Go.ChangeMaps
set_option linter.unusedVariables false
set_option linter.unusedSimpArgs false
set_option linter.unusedSectionVars false
set_option maxRecDepth 100000

theorem line_any (s : Nm) (hs : s.length ≤ 1000000) (m : Nat) (n : Int) (hn : n = (m : Int)) {B P Wm M : Nat} {st : PS} {vo vj : Value} (w : World) (hv : Tv B w) (hB : B ≤ w.heap.size) {D : Nat} (hp : PsAt w D P Wm M st vo vj) (hsz : st.out.length ≤ 4096 ∧ st.jumps.length ≤ 4096) : Calls Tryz.prog 27 #[.pointer (some ⟨P, 0, none⟩), .string ⟨s.toArray⟩, .int .i64 n] w fun x w' => LineR w D P Wm M (stepP st m s) x w' := by
  have hD : D ≤ w.heap.size := Nat.le_trans hp.lo.1 (Nat.le_of_lt hp.bk.lt)
  cases ht : toks s with
  | none =>
    refine (line_bad s hs n P w hv hB ht).mono ?_
    rintro x w' ⟨rfl, hb⟩
    rw [hn]
    exact LineR.err (step_bad ht) (Lo.of hb hD)
  | some l =>
    cases l with
    | nil =>
      refine (line_none s hs n P w hv hB ht).mono ?_
      rintro x w' ⟨rfl, hb⟩
      exact LineR.ok (step_none ht) (Lo.of hb hD) (hp.below hb)
    | cons s0 t =>
      have hsh := toks_short ht
      have h0 := hsh s0 (List.mem_cons_self ..)
      cases hm : markT (s0 :: t) with
      | some a =>
        obtain ⟨e1, e2⟩ := mark_form hm
        have hst := step_mark (st := st) (n := m) ht hm
        rw [e1] at ht
        have ha : a.length ≤ 1000000 := by
          have := toks_short ht a (List.mem_cons_self ..)
          omega
        cases hh : hasM st.marks a with
        | none =>
          refine (line_mark s hs n w hv hB ht e2 ha hp hh).mono ?_
          rintro x w' ⟨rfl, h2, a2⟩
          exact LineR.ok (hst.1 hh) ⟨⟨a2.os, a2.tape, a2.output, a2.size, fun k hk => a2.block k (Nat.lt_of_lt_of_le hk hD) (by have := hp.lo.2.2; omega)⟩, fun b cs fr q => a2.block b (blk_lt q) (fun e => by
            subst e
            obtain ⟨L, ⟨es, ck, h1, _⟩, _⟩ := hp.marks
            rw [h1] at q
            cases q)⟩ h2
        | some k =>
          refine (line_twice s hs n w hv hB ht e2 ha hp hh).mono ?_
          rintro x w' ⟨rfl, hb⟩
          rw [hn]
          exact LineR.err (hst.2 k hh) (Lo.of hb hD)
      | none =>
        cases hw : wayP s0 with
        | none =>
          refine (line_unknown s hs n w hv hB ht hm (by omega) hp hw).mono ?_
          rintro x w' ⟨rfl, hb⟩
          rw [hn]
          exact LineR.err (step_unknown ht hm hw) (Lo.of hb hD)
        | some p =>
          exact line_known s hs m n hn w hv hB ht hm (by omega) hp hsz (i := p.1) (k := p.2) hw
end Go.Proofs.YtjebjninlejoeaaGreatDoor
namespace Go.Proofs.YtjebjninlejoeaaGreatDoor
open Go.RowKit Go.Maps Go.ChangeMaps Go.Shelf
set_option linter.unusedVariables false
set_option linter.unusedSimpArgs false
set_option linter.unusedSectionVars false
set_option maxRecDepth 100000

theorem parse_idle (a b : Addr) (w : World) : CallsD Tryz.prog 25 #[.pointer (some a), .pointer (some b)] .returning w fun e u' w' => e = .returned (.tuple #[]) ∧ u' = .returning ∧ w' = w := by
  refine callsD_of_wpS Tryz.func25 rfl fun c₀ cs hu => ?_
  apply wpS_seq
  apply wpS_region
  simp [wpOpsS, go_sem, recoverD, hu, Tryz.ntmps25, Exit.thenS]
  refine wpS_of_wp ?_
  simp [Array.replicate]
  go_wp2
  cases c₀
  simp_all [bodyPostS, results, Tryz.results25]
theorem parse_caught {F L : Nat} {v : Value} (x n : Int) (w : World) (hF : Bk w F 26 [.int .i64 0, .int .i64 0]) (hL : Bk w L 23 [v]) (hne : F ≠ L) :
    CallsD Tryz.prog 25 #[.pointer (some ⟨F, 0, none⟩), .pointer (some ⟨L, 0, none⟩)] (.panicking [{ v := .iface 26 (ftV x n), recovered := false }]) w fun e u' w' =>
      e = .returned (.tuple #[]) ∧ u' = .panicking [{ v := .iface 26 (ftV x n), recovered := true }] ∧ w' = ((w.setCell ⟨F, 0, none⟩ (.int .i64 x)).setCell ⟨F, 1, none⟩ (.int .i64 n)).setCell ⟨L, 0, none⟩ (.slice none 0 0) := by
  have cF0 := hF.cell 0
  have cF1 := hF.cell 1
  have fF0 := hF.frozen 0
  have fF1 := hF.frozen 1
  have cL := hL.cell 0
  have fL := hL.frozen 0
  simp only [List.getElem?_cons_zero, List.getElem?_cons_succ] at cF0 cF1 cL
  clear hF hL
  unfold ftV
  refine callsD_of_wpS Tryz.func25 rfl fun c₀ cs hu => ?_
  apply wpS_seq
  apply wpS_region
  simp [wpOpsS, go_sem, recoverD, hu, Tryz.ntmps25, Exit.thenS]
  refine wpS_of_wp ?_
  simp [Array.replicate]
  have hta : ∀ (w : World) (x n : Int), (Instr.typeAssert (.iface 26 (.agg #[.int .i64 x, .int .i64 n])) 20 26 true).run Tryz.prog w = .ok (.tuple #[.agg #[.int .i64 x, .int .i64 n], .bool true]) w := fun _ _ _ => by kernel_rfl
  go_wp2
  cases c₀
  simp_all [bodyPostS, results, Tryz.results25]
end Go.Proofs.YtjebjninlejoeaaGreatDoor
namespace Go.Proofs.YtjebjninlejoeaaGreatDoor
open Go.RowKit Go.Maps Go.ChangeMaps
set_option linter.unusedVariables false
set_option linter.unusedSimpArgs false
set_option linter.unusedSectionVars false
set_option maxRecDepth 100000

theorem flat_at {α : Type} {f : α → List Value} {c : Nat} (hf : ∀ x, (f x).length = c) : ∀ (l : List α) (k : Nat) (x : α) (m : Nat), l[k]? = some x → m < c → (l.flatMap f)[k * c + m]? = (f x)[m]?
  | [], k, x, m, h, hm => by simp at h
  | y :: l, 0, x, m, h, hm => by
    simp at h
    subst h
    rw [List.flatMap_cons, List.getElem?_append_left (by rw [hf]; omega)]
    simp
  | y :: l, k + 1, x, m, h, hm => by
    have e : (k + 1) * c + m = c + (k * c + m) := by rw [Nat.succ_mul]; omega
    rw [List.flatMap_cons, List.getElem?_append_right (by rw [hf]; omega), hf, e, Nat.add_sub_cancel_left]
    exact flat_at hf l k x m (by simpa using h) hm
theorem jm_at {w : World} {D g c : Nat} {l : List Jmp} {n : Nat} (h : w.ownsRow D 129 3 (.slice (some ⟨g, 0, none⟩) n c) n (jmC l)) (hn : l.length ≤ n) {k : Nat} {j : Jmp} (hk : l[k]? = some j) :
    w.cell? ⟨g, k * 3, none⟩ = some (.int .i64 j.at_) ∧ w.cell? ⟨g, k * 3 + 1, none⟩ = some (.int .i64 j.line) ∧ w.cell? ⟨g, k * 3 + 2, none⟩ = some (.string ⟨j.to.toArray⟩) := by
  have hlt : k < l.length := (List.getElem?_eq_some_iff.1 hk).1
  have f := fun m (hm : m < 3) => (h.cellAt (k * 3 + m) (by omega)).trans (flat_at (f := fun j : Jmp => [Value.int .i64 j.at_, .int .i64 j.line, .string ⟨j.to.toArray⟩]) (c := 3) (fun _ => rfl) l k j m hk hm)
  exact ⟨f 0 (by omega), f 1 (by omega), f 2 (by omega)⟩
theorem ins_at {w : World} {D g c : Nat} {l : List IV} {n : Nat} (h : w.ownsRow D 40 8 (.slice (some ⟨g, 0, none⟩) n c) n (outC l)) (hn : l.length ≤ n) {k : Nat} {i : IV} (hk : l[k]? = some i) {m : Nat} (hm : m < 8) :
    w.cell? ⟨g, k * 8 + m, none⟩ = (ivV i)[m]? := by
  have hlt : k < l.length := (List.getElem?_eq_some_iff.1 hk).1
  exact (h.cellAt (k * 8 + m) (by omega)).trans (flat_at (f := ivV) (c := 8) (fun _ => rfl) l k i m hk hm)
theorem markTy : Tryz.prog.underlying 55 = some (.map 9 3) := Tryz.underlying55
/-- Jumps landing: those behind place k are left. -/
structure LaI (w : World) (D P Wm M : Nat) (st : PS) (vo vj : Value) (k : Nat) (out : List IV) (W : World) : Prop where
  low : Below D w W
  ps : PsAt W D P Wm M { st with out := out } vo vj
  eq : landP st.marks st.out st.jumps = landP st.marks out (st.jumps.drop k)
  right : ∀ i ∈ out, rightP i = true
  jmp : ∀ j ∈ st.jumps.drop k, ∃ i, out[j.at_]? = some i ∧ JmpOp i
  len : out.length = st.out.length
/-- What landing tells. -/
def LandR (w : World) (D P Wm M : Nat) (st : PS) (vj : Value) (r : Except (Int × Nat) (List IV)) (x : Ending) (w' : World) : Prop :=
  Below D w w' ∧ match r with
  | .error e => x = Thrown e.1 (e.2 : Nat)
  | .ok l => x = .returned (.tuple #[]) ∧ ∃ vo, PsAt w' D P Wm M { st with out := l } vo vj
theorem LandR.err {w w' : World} {D P Wm M : Nat} {st : PS} {vj : Value} {r : Except (Int × Nat) (List IV)} {e : Int} {m : Nat} (h : r = .error (e, m)) (hb : Below D w w') : LandR w D P Wm M st vj r (Thrown e (m : Nat)) w' := by
  subst h
  exact ⟨hb, rfl⟩
theorem LandR.ok {w w' : World} {D P Wm M : Nat} {st : PS} {vo vj : Value} {r : Except (Int × Nat) (List IV)} {l : List IV} (h : r = .ok l) (hb : Below D w w') (hp : PsAt w' D P Wm M { st with out := l } vo vj) : LandR w D P Wm M st vj r (.returned (.tuple #[])) w' := by
  subst h
  exact ⟨hb, rfl, vo, hp⟩
theorem LaI.below {w W W' : World} {D P Wm M : Nat} {st : PS} {vo vj : Value} {k : Nat} {out : List IV} (h : LaI w D P Wm M st vo vj k out W) (hb : Below W.heap.size W W') : LaI w D P Wm M st vo vj k out W' :=
  ⟨h.low.trans (hb.mono (Nat.le_trans h.ps.lo.1 (Nat.le_of_lt h.ps.bk.lt))), h.ps.below hb, h.eq, h.right, h.jmp, h.len⟩
theorem mod_right {out : List IV} {k : Nat} {i : IV} {o : Int} (h : ∀ x ∈ out, rightP x = true) (hi : out[k]? = some i) (ho : rightP (offI o i) = true) : ∀ x ∈ out.modify k (offI o), rightP x = true := by
  intro x hx
  obtain ⟨q, hq, ex⟩ := List.mem_iff_getElem.1 hx
  rw [List.getElem_modify] at ex
  rw [List.length_modify] at hq
  split at ex
  · next e1 =>
    subst e1
    have e2 : out[k] = i := by rw [List.getElem?_eq_getElem hq] at hi; exact Option.some.inj hi
    rw [← ex, e2]
    exact ho
  · rw [← ex]; exact h _ (List.getElem_mem hq)
theorem mod_jmp {out : List IV} {k : Nat} {o : Int} {js : List Jmp} (h : ∀ j ∈ js, ∃ i, out[j.at_]? = some i ∧ JmpOp i) : ∀ j ∈ js, ∃ i, (out.modify k (offI o))[j.at_]? = some i ∧ JmpOp i := by
  intro q hq
  obtain ⟨i2, h1, h2⟩ := h q hq
  rw [List.getElem?_modify, h1]
  refine ⟨_, rfl, ?_⟩
  by_cases e1 : k = q.at_
  · simp only [e1, if_true]; exact h2
  · simp only [e1, if_false]; exact h2
set_option maxHeartbeats 2000000 in
theorem land_any {P Wm M D : Nat} {st : PS} {vo vj : Value} (w : World) (hp : PsAt w D P Wm M st vo vj) (hi : PI st) (hln : ∀ j ∈ st.jumps, j.line ≤ 1000000) (hto : ∀ j ∈ st.jumps, j.to.length ≤ 1000000) (hmk : ∀ s k, hasM st.marks s = some k → k ≤ 4096) (hsz : st.jumps.length ≤ 4096) : Calls Tryz.prog 28 #[.pointer (some ⟨P, 0, none⟩)] w fun x w' => LandR w D P Wm M st vj (landP st.marks st.out st.jumps) x w' := by
  have H0 : LaI w D P Wm M st vo vj 0 st.out w := ⟨Below.refl _ _, hp, rfl, hi.right, hi.jmp, rfl⟩
  have HI := Lib.hid hi
  have HD := Lib.hid (show D ≤ w.heap.size from Nat.le_trans hp.lo.1 (Nat.le_of_lt hp.bk.lt))
  have HLN := Lib.hid hln
  have HMK := Lib.hid hmk
  have HTO := Lib.hid hto
  generalize hrr : landP st.marks st.out st.jumps = rr at *
  have HRR := Lib.hid hrr
  obtain ⟨Aj, cj, rfl⟩ := own_slice hp.jumps
  have c3 := hp.bk.cell 3
  simp only [List.getElem?_cons_zero, List.getElem?_cons_succ] at c3
  have H0' := Lib.hid H0
  clear H0
  clear hi hln hmk hrr hp hto
  go_enter Tryz.func28, Tryz.ntmps28
  go_wp2_with fail
  go_loopw [12] (fun i wr => ∃ (k : Nat) (out : List IV), k ≤ st.jumps.length ∧ i = .int .i64 k ∧ Hid (LaI w D P Wm M st vo (.slice Aj st.jumps.length cj) k out wr)) (fun i _ => st.jumps.length - (intOf i).toNat)
  case atStart => exact ⟨0, st.out, Nat.zero_le _, rfl, H0'⟩
  case round =>
    obtain ⟨k, out, hk, rfl, HL⟩ := hrel
    clear c3
    by_cases hlt : k < st.jumps.length
    · have d1 : decide ((k : Int) < (st.jumps.length : Int)) = true := decide_eq_true (by omega)
      obtain ⟨j, hj⟩ : ∃ j, st.jumps[k]? = some j := ⟨st.jumps[k], List.getElem?_eq_getElem hlt⟩
      have hdr : st.jumps.drop k = j :: st.jumps.drop (k + 1) := by
        rw [List.drop_eq_getElem_cons hlt]
        rw [List.getElem?_eq_getElem hlt] at hj
        injection hj with hj
        rw [hj]
      obtain ⟨i, hi, hJ⟩ := HL.out.jmp j (by rw [hdr]; exact List.mem_cons_self ..)
      have hlo : j.at_ < out.length := (List.getElem?_eq_some_iff.1 hi).1
      have heq := HL.out.eq
      rw [HRR.out, hdr] at heq
      obtain ⟨gj, cj', ej⟩ := own_form HL.out.ps.jumps (by show 0 < st.jumps.length; omega)
      injection ej with ej1 ej2 ej3
      subst ej1 ej3
      obtain ⟨go, co, rfl⟩ := own_form HL.out.ps.out (by show 0 < out.length; omega)
      obtain ⟨j1, j2, j3⟩ := jm_at HL.out.ps.jumps (Nat.le_refl _) hj
      have HRR0 := Lib.hid HL.out.right
      have HJJ0 := Lib.hid HL.out.jmp
      have HLEN := Lib.hid HL.out.len
      have HRI := Lib.hid (HL.out.right i (List.mem_of_getElem? hi))
      have HJO := Lib.hid hJ
      have HEQ := Lib.hid heq
      have HDR := Lib.hid hdr
      have HII := Lib.hid hi
      clear hdr heq hJ hi
      have q1 : (0 : Int) ≤ (k : Int) := by omega
      have q2 : (k : Int) < (st.jumps.length : Int) := by omega
      have q3 : (0 : Int) ≤ (j.at_ : Int) := by omega
      have q4 : (j.at_ : Int) < (out.length : Int) := by omega
      go_wp2_with fail
      have HB := Lib.hid (Bk.new wr 129 [.int .i64 j.at_, .int .i64 j.line, .string ⟨j.to.toArray⟩])
      have HG := Lib.hid (show go ≠ wr.heap.size by have := (HL.out.ps.lt (b := go) (.inr (.inr (.inr (.inl rfl))))).2; omega)
      have HL := Lib.hid (HL.out.below ((Below.refl _ wr).alloc (Nat.le_refl _) (.cells #[.int .i64 j.at_, .int .i64 j.line, .string ⟨j.to.toArray⟩] 129)))
      clear j1 j2 j3 q1 q2 H0'
      generalize wr.heap.size = J at *
      have HBb : Hid (Bk (wr.alloc (.cells #[.int .i64 j.at_, .int .i64 j.line, .string ⟨j.to.toArray⟩] 129)) J 129 [.int .i64 j.at_, .int .i64 j.line, .string ⟨j.to.toArray⟩]) := HB
      clear HB
      generalize (wr.alloc (.cells #[.int .i64 j.at_, .int .i64 j.line, .string ⟨j.to.toArray⟩] 129)) = wa at *
      have c2 := HL.out.ps.bk.cell 2
      have b2 := HBb.out.cell 2
      have b0 := HBb.out.cell 0
      have p0 := HL.out.ps.bk.cell 0
      simp only [List.getElem?_cons_zero, List.getElem?_cons_succ] at c2 b2 b0 p0
      have o5 := (ins_at HL.out.ps.out (Nat.le_refl _) HII.out (m := 5) (by omega))
      simp only [ivV, List.getElem?_cons_zero, List.getElem?_cons_succ] at o5
      have f5 := HL.out.ps.out.frozenAt (j.at_ * 8 + 5)
      have q5 : (j.at_ : Int) < 4096 := by have := HL.out.len; have := HI.out.len; omega
      have hl := (HL.out.below (Below.drew (Below.refl _ wa))).ps.marks.look2 markTy j.to (HTO.out j (List.mem_of_getElem? hj)) zeroInt
      unfold nmV at hl
      have HE2 := Lib.hid (show landP st.marks out (j :: st.jumps.drop (k + 1)) = match hasM st.marks j.to with
        | none => .error (121, j.line)
        | some a => if inI ((a : Int) - j.at_ - 1) (-32768) 32767 then landP st.marks (out.modify j.at_ (offI ((a : Int) - j.at_ - 1))) (st.jumps.drop (k + 1)) else .error (121, j.line) from by
          rw [landP]
          cases hasM st.marks j.to <;> rfl)
      cases hm : hasM st.marks j.to with
      | none =>
        rw [hm] at hl HE2
        simp only [Option.map_none, Option.getD_none, Option.isSome_none] at hl HE2
        have jl := HBb.out.cell 1
        simp only [List.getElem?_cons_zero, List.getElem?_cons_succ] at jl
        have hne : ¬ go = J := HG.out
        have hne2 : ¬ J = go := fun e => HG.out e.symm
        have q6 : (j.line : Int) ≤ 1000000 := by have := HLN.out j (List.mem_of_getElem? hj); omega
        go_region
        all_goals
          go_wp2_with fail
          go_region
          all_goals
            go_wp2_with fail
            (with_reducible refine (throw_any 121 j.line _).mono ?_)
            rintro _ wq ⟨rfl, rfl⟩
            refine ⟨rfl, ?_⟩
            exact LandR.err (m := j.line) (HEQ.out.trans HE2.out) (((HL.out.low.setCell (HL.out.ps.lt (b := go) (.inr (.inr (.inr (.inl rfl))))).1 _).drew).drew)
      | some a =>
        rw [hm] at hl HE2
        simp only [Option.map_some, Option.getD_some, Option.isSome_some] at hl HE2
        have q6 : (a : Int) ≤ 4096 := by have := HMK.out j.to a hm; omega
        have q7 : (0 : Int) ≤ (a : Int) := by omega
        go_region
        all_goals
          go_wp2_with fail
          go_region
          all_goals
            go_upto_region 6 with fail
            have HT := Lib.hid (HL.out.ps.turned j.at_ ((a : Int) - j.at_ - 1))
            have HL2 := Lib.hid ((HL.out.low.setCell (HL.out.ps.lt (b := go) (.inr (.inr (.inr (.inl rfl))))).1 (p := ⟨go, j.at_ * 8 + 5, none⟩) (.int .i64 ((a : Int) - j.at_ - 1))).drew.drew)
            have HBs : Hid (Bk (wa.setCell ⟨go, j.at_ * 8 + 5, none⟩ (.int .i64 ((a : Int) - j.at_ - 1))).drew.drew J 129 [.int .i64 j.at_, .int .i64 j.line, .string ⟨j.to.toArray⟩]) := Lib.hid ((Below.heap_setCell wa _ _ J (fun e => HG.out e.symm)).trans HBb.out)
            have HT2 := Lib.hid (HT.out.below (Below.drew (Below.drew (Below.refl _ _))))
            have HI2 := Lib.hid (show (out.modify j.at_ (offI ((a : Int) - j.at_ - 1)))[j.at_]? = some (offI ((a : Int) - j.at_ - 1) i) by rw [List.getElem?_modify, HII.out]; simp)
            clear HT HBb HL c2 b2 b0 p0 o5 f5 hl
            generalize (wa.setCell ⟨go, j.at_ * 8 + 5, none⟩ (.int .i64 ((a : Int) - j.at_ - 1))).drew.drew = ws at *
            have hO : ws.ownsRow D 40 8 (.slice (some ⟨go, 0, none⟩) out.length co) out.length (outC (out.modify j.at_ (offI ((a : Int) - j.at_ - 1)))) := by
              have := HT2.out.out
              simpa only [List.length_modify] using this
            have cs := fun m (hm : m < 8) => ins_at hO (by rw [List.length_modify]; exact Nat.le_refl _) HI2.out hm
            clear hO
            have s0 := cs 0 (by omega)
            have s1 := cs 1 (by omega)
            have s2 := cs 2 (by omega)
            have s3 := cs 3 (by omega)
            have s4 := cs 4 (by omega)
            have s5 := cs 5 (by omega)
            have s6 := cs 6 (by omega)
            have s7 := cs 7 (by omega)
            clear cs
            have HRT := right_any (offI ((a : Int) - j.at_ - 1) i)
            have HEQ2 := Lib.hid (HEQ.out.trans HE2.out)
            clear HE2 HEQ
            generalize (a : Int) - j.at_ - 1 = o at *
            have HRG := Lib.hid (mod_right (o := o) HRR0.out HII.out)
            cases hin : inI o (-32768) 32767 with
            | true =>
              have hri : rightP (offI o i) = true := right_off HRI.out HJO.out hin
              have HRG2 := Lib.hid (HRG.out hri)
              have HEQ3 : Hid (rr = landP st.marks (out.modify j.at_ (offI o)) (st.jumps.drop (k + 1))) := Lib.hid (by have := HEQ2.out; rw [hin] at this; exact this)
              rw [hri] at HRT
              have HLA := Lib.hid (fun (W : World) (hb : Below ws.heap.size ws W) => LaI.below (W' := W) (show LaI w D P Wm M st (.slice (some ⟨go, 0, none⟩) out.length co) (.slice (some ⟨gj, 0, none⟩) st.jumps.length cj) (k + 1) (out.modify j.at_ (offI o)) ws from ⟨HL2.out, HT2.out, HRR.out.trans HEQ3.out, HRG2.out, mod_jmp (fun q hq => HJJ0.out q (by rw [HDR.out]; exact List.mem_cons_of_mem _ hq)), by rw [List.length_modify]; exact HLEN.out⟩) hb)
              clear hri hin HRG HRG2 HEQ3 HEQ2 HT2 HL2 HBs HI2
              obtain ⟨i1, i2, i3, i4, i5, i6, i7, i8⟩ := i
              simp only [ivV, offI, List.getElem?_cons_zero, List.getElem?_cons_succ, Nat.add_zero] at s0 s1 s2 s3 s4 s5 s6 s7 HRT
              go_wp2_with fail
              (with_reducible refine (HRT _).mono ?_)
              rintro _ wz ⟨rfl, bz⟩
              have HF := Lib.hid (HLA.out _ bz)
              clear HRT HLA s0 s1 s2 s3 s4 s5 s6 s7 bz
              go_wp2_with fail
              go_roundw
              case rel => exact ⟨k + 1, _, by omega, by go_num, HF⟩
              case measure => simp [intOf]; omega
            | false =>
              have hri : rightP (offI o i) = false := right_off_no HJO.out hin
              rw [hri] at HRT
              have HEQ3 : Hid (rr = .error (121, j.line)) := Lib.hid (by have := HEQ2.out; rw [hin] at this; exact this)
              clear hri hin HRG HEQ2 HT2 HI2
              obtain ⟨i1, i2, i3, i4, i5, i6, i7, i8⟩ := i
              simp only [ivV, offI, List.getElem?_cons_zero, List.getElem?_cons_succ, Nat.add_zero] at s0 s1 s2 s3 s4 s5 s6 s7 HRT
              go_wp2_with fail
              (with_reducible refine (HRT _).mono ?_)
              rintro _ wz ⟨rfl, bz⟩
              have jl := (HBs.out.below bz HBs.out.lt).cell 1
              simp only [List.getElem?_cons_zero, List.getElem?_cons_succ] at jl
              have HF := Lib.hid (HL2.out.trans (bz.mono (Nat.le_trans HD.out HL2.out.size)))
              clear HRT s0 s1 s2 s3 s4 s5 s6 s7 bz HBs HL2
              go_wp2_with fail
              (with_reducible refine (throw_any 121 j.line _).mono ?_)
              rintro _ wq ⟨rfl, rfl⟩
              refine ⟨rfl, ?_⟩
              exact LandR.err (m := j.line) HEQ3.out HF.out
    · have d1 : decide ((k : Int) < (st.jumps.length : Int)) = false := decide_eq_false (by omega)
      have hdr : st.jumps.drop k = [] := List.drop_eq_nil_of_le (by omega)
      have HE := Lib.hid (show rr = .ok out by have := HL.out.eq; rw [HRR.out, hdr] at this; simpa [landP] using this)
      clear hdr
      go_wp2_with fail
      first
        | exact bodyPost_end (v := .tuple #[]) (by simp [results, Tryz.results28, go_sem]) rfl (LandR.ok HE.out HL.out.low HL.out.ps)
        | exact bodyPost_ret (v := .tuple #[]) (by simp [results, Tryz.results28, go_sem]) rfl (LandR.ok HE.out HL.out.low HL.out.ps)
end Go.Proofs.YtjebjninlejoeaaGreatDoor
namespace Go.Proofs.YtjebjninlejoeaaGreatDoor
set_option linter.unusedVariables false
set_option linter.unusedSimpArgs false

theorem to_len {i i' : IV} {a : Nm} {l r : List Nm} (h : toT i l = some (i', a, r)) : a.length ≤ 30 := by
  unfold toT at h
  split at h
  · cases h
  · next s t =>
    split at h
    · next hl =>
      injection h with h
      injection h with _ h
      injection h with h _
      subst h
      cases s with
      | nil => simp
      | cons c u =>
        simp only [labelP, Bool.and_eq_true, decide_eq_true_eq] at hl
        exact hl.1.1
    · obtain ⟨p, _, e⟩ := Option.map_eq_some_iff.1 h
      injection e with _ e
      injection e with e _
      subst e
      simp
theorem rest_len {i i' : IV} {a : Nm} {l r : List Nm} {k : Kind} (h : restT i l k = some (i', a, r)) : a.length ≤ 30 := by
  cases k with
  | alu => obtain ⟨p, _, e⟩ := Option.map_eq_some_iff.1 h; injection e with _ e; injection e with e _; subst e; simp
  | neg => obtain ⟨p, _, e⟩ := Option.map_eq_some_iff.1 h; injection e with _ e; injection e with e _; subst e; simp
  | ask =>
    obtain ⟨p, _, h⟩ := Option.bind_eq_some_iff.1 h
    obtain ⟨q, _, h⟩ := Option.bind_eq_some_iff.1 h
    exact to_len h
  | load =>
    obtain ⟨p, _, h⟩ := Option.bind_eq_some_iff.1 h
    obtain ⟨q, _, h⟩ := Option.bind_eq_some_iff.1 h
    obtain ⟨q, _, e⟩ := Option.map_eq_some_iff.1 h
    injection e with _ e; injection e with e _; subst e; simp
  | put =>
    obtain ⟨p, _, h⟩ := Option.bind_eq_some_iff.1 h
    obtain ⟨q, _, h⟩ := Option.bind_eq_some_iff.1 h
    obtain ⟨q, _, e⟩ := Option.map_eq_some_iff.1 h
    injection e with _ e; injection e with e _; subst e; simp
  | far => exact to_len h
  | exit => injection h with h; injection h with _ h; injection h with h _; subst h; simp
theorem inst_len {t : List Nm} {i : IV} {a : Nm} (h : instP t = some (i, a)) : a.length ≤ 30 := by
  unfold instP at h
  split at h
  · cases h
  · split at h
    · cases h
    · split at h
      · next e => injection h with h; injection h with h1 h2; subst h1 h2; exact rest_len e
      · cases h
structure QI (st : PS) (n : Nat) : Prop where
  pi : PI st
  jl : st.jumps.length ≤ st.out.length
  line : ∀ j ∈ st.jumps, j.line < n
  to_ : ∀ j ∈ st.jumps, j.to.length ≤ 30
  mks : ∀ p ∈ st.marks, p.2 ≤ st.out.length
theorem qi0 (n : Nat) : QI ps0 n := ⟨pi0, Nat.le_refl _, fun j h => (by cases h), fun j h => (by cases h), fun j h => (by cases h)⟩
theorem QI.step {st st' : PS} {n : Nat} {s : List UInt8} (h : QI st n) (e : stepP st n s = .ok st') : QI st' (n + 1) := by
  obtain ⟨h1, h2⟩ := step_inv h.pi e
  have h3 := step_jlen e h.jl
  refine ⟨h1, h3, fun j hj => (h2 j hj).elim (fun q => Nat.lt_succ_of_lt (h.line j q)) (fun q => by omega), ?_, ?_⟩
  · unfold stepP at e
    split at e
    · cases e
    · injection e with e; subst e; exact h.to_
    · split at e
      · split at e
        · cases e
        · injection e with e; subst e; exact h.to_
      · split at e
        · cases e
        · next hi =>
          split at e
          · split at e
            · cases e
            · injection e with e
              subst e
              intro j hj
              simp only at hj
              split at hj
              · exact h.to_ j hj
              · rcases List.mem_append.1 hj with hj | hj
                · exact h.to_ j hj
                · simp at hj; subst hj; exact inst_len hi
          · cases e
  · unfold stepP at e
    split at e
    · cases e
    · injection e with e; subst e; exact h.mks
    · split at e
      · split at e
        · cases e
        · injection e with e
          subst e
          intro p hp
          rcases List.mem_append.1 hp with hp | hp
          · exact h.mks p hp
          · simp at hp; subst hp; exact Nat.le_refl _
      · split at e
        · cases e
        · split at e
          · split at e
            · cases e
            · injection e with e
              subst e
              intro p hp
              have := h.mks p hp
              simp only [List.length_append, List.length_cons, List.length_nil]
              omega
          · cases e
theorem QI.marks {st : PS} {n : Nat} (h : QI st n) {s : Nm} {k : Nat} (hk : hasM st.marks s = some k) : k ≤ 4096 := by
  unfold hasM at hk
  obtain ⟨p, hp, e⟩ := Option.map_eq_some_iff.1 hk
  have := h.mks p (List.mem_of_find?_eq_some hp)
  have := h.pi.len
  omega
/-- Lines, one by one. -/
theorem run_drop {ls : List Nm} {k n : Nat} {l : Nm} {st : PS} (h : ls[k]? = some l) : runP st n (ls.drop k) = match stepP st n l with | .error e => .error e | .ok st' => runP st' (n + 1) (ls.drop (k + 1)) := by
  have hlt : k < ls.length := (List.getElem?_eq_some_iff.1 h).1
  rw [List.drop_eq_getElem_cons hlt]
  have e : ls[k] = l := by rw [List.getElem?_eq_getElem hlt] at h; exact Option.some.inj h
  rw [e]
  rfl
end Go.Proofs.YtjebjninlejoeaaGreatDoor
namespace Go.Proofs.YtjebjninlejoeaaGreatDoor
open Go.RowKit Go.Maps Go.ChangeMaps Go.Shelf
set_option linter.unusedVariables false
set_option linter.unusedSimpArgs false
set_option linter.unusedSectionVars false
set_option maxRecDepth 100000

/-- What Parse tells. -/
def ParR (w : World) (r : Except (Int × Nat) (List IV)) (x : Ending) (w' : World) : Prop :=
  Below w.heap.size w w' ∧ match r with
  | .error e => x = .returned (.tuple #[.slice none 0 0, ftV e.1 (e.2 : Nat)])
  | .ok l => ∃ vo, x = .returned (.tuple #[vo, ftV 0 0]) ∧ w'.ownsRow w.heap.size 40 8 vo l.length (outC l)
theorem ParR.err {w w' : World} {r : Except (Int × Nat) (List IV)} {e : Int} {m : Nat} (h : r = .error (e, m)) (hb : Below w.heap.size w w') : ParR w r (.returned (.tuple #[.slice none 0 0, ftV e (m : Nat)])) w' := by
  subst h
  exact ⟨hb, rfl⟩
theorem leave_parse (L F : Nat) (v : Value) (e n : Int) (tmps : Array Value) (W : World) (hL : W.cell? ⟨L, 0, none⟩ = some v) (hF : W.cell? ⟨F, 0, none⟩ = some (.int .i64 e) ∧ W.cell? ⟨F, 1, none⟩ = some (.int .i64 n)) (h2 : tmps.getD 2 undef = .pointer (some ⟨L, 0, none⟩)) (h3 : tmps.getD 3 undef = .pointer (some ⟨F, 0, none⟩)) : (results Tryz.f9 tmps).run Tryz.prog W = .ok (.tuple #[v, ftV e n]) W := by
  obtain ⟨f0, f1⟩ := hF
  have h2' : tmps[2]?.getD undef = .pointer (some ⟨L, 0, none⟩) := by simpa using h2
  have h3' : tmps[3]?.getD undef = .pointer (some ⟨F, 0, none⟩) := by simpa using h3
  simp [results, Tryz.results9, go_sem, h2', h3', hL, f0, f1, ftV]
set_option maxHeartbeats 2000000 in
theorem parse_long (s : Nm) (hs : 262144 < s.length) (hs2 : s.length ≤ 1000000000) (w : World) : Calls Tryz.prog 9 #[.string ⟨s.toArray⟩] w fun x w' => ParR w (parseP s) x w' := by
  have HE := Lib.hid (show parseP s = .error (3, 0) by unfold parseP; rw [if_pos hs])
  have hx : (((⟨s.toArray⟩ : ByteArray).size : Nat) : Int) = (s.length : Int) := by show ((s.toArray.size : Nat) : Int) = _; simp
  have d1 : decide ((262144 : Int) < (s.length : Int)) = true := decide_eq_true (by omega)
  have q1 : (262144 : Int) < (s.length : Int) := by omega
  go_enter_defers Tryz.func9, Tryz.ntmps9
  go_wp2_with fail
  have hL := ((Bk.new w 23 [.slice none 0 0]).below ((Below.refl _ _).alloc (Nat.le_refl _) (.cells #[.int .i64 3, .int .i64 0] 26)) (by simp)).cell 0
  have hF := Bk.new (w.alloc (.cells #[.slice none 0 0] 23)) 26 [.int .i64 3, .int .i64 0]
  have hz : (w.alloc (.cells #[.slice none 0 0] 23)).heap.size = w.heap.size + 1 := by simp
  rw [hz] at hF
  refine ⟨_, leave_parse w.heap.size (w.heap.size + 1) (.slice none 0 0) 3 0 _ _ hL ⟨hF.cell 0, hF.cell 1⟩ rfl rfl, ?_⟩
  exact ParR.err (m := 0) HE.out (((Below.refl _ w).alloc (Nat.le_refl _) _).alloc (by simp) _)
def lsC (ls : List Nm) : List Value := ls.map fun l => .string ⟨l.toArray⟩
theorem split_lines_any (s : Nm) (hs : s.length ≤ 262144) {B : Nat} (w : World) (hv : Tv B w) : Calls Tryz.prog 21 #[.string ⟨s.toArray⟩, .string ⟨#[10]⟩] w fun e w' => e = .returned (.slice (some ⟨w.heap.size, 0, none⟩) (linesP s).length (linesP s).length) ∧ w' = w.alloc (.cells (lsC (linesP s)).toArray 9) := by
  obtain ⟨m, hm⟩ := hv.ml
  refine (Tryz.strings_Split ⟨s.toArray⟩ ⟨#[10]⟩ m w (by show s.toArray.size < _; simp; omega) hm (by decide)).mono ?_
  rintro e w' ⟨h1, h2⟩
  have e1 : (⟨s.toArray⟩ : ByteArray).data.toList = s := by simp
  have e2 : Lib.countB ⟨s.toArray⟩ ⟨#[10]⟩ + 1 = (linesP s).length := by rw [count_is, lines_len, e1]
  refine ⟨by rw [h1, e2], ?_⟩
  rw [h2, split_is, e1, List.map_map]
  rfl
theorem parse_cells {W : World} {L F : Nat} {v : Value} (v' : Value) (e n : Int) (hF : Bk W F 26 [.int .i64 0, .int .i64 0]) (hL : Bk W L 23 [v]) (hne : F ≠ L) :
    Bk (((W.setCell ⟨F, 0, none⟩ (.int .i64 e)).setCell ⟨F, 1, none⟩ (.int .i64 n)).setCell ⟨L, 0, none⟩ v') L 23 [v'] ∧ Bk (((W.setCell ⟨F, 0, none⟩ (.int .i64 e)).setCell ⟨F, 1, none⟩ (.int .i64 n)).setCell ⟨L, 0, none⟩ v') F 26 [.int .i64 e, .int .i64 n] := by
  have f2 := (hF.set 0 (.int .i64 e)).set 1 (.int .i64 n)
  have l2 : Bk ((W.setCell ⟨F, 0, none⟩ (.int .i64 e)).setCell ⟨F, 1, none⟩ (.int .i64 n)) L 23 [v] := (Below.heap_setCell _ _ _ L (fun q => hne q.symm)).trans ((Below.heap_setCell _ _ _ L (fun q => hne q.symm)).trans hL)
  exact ⟨l2.set 0 v', (Below.heap_setCell _ _ _ F hne).trans f2⟩
theorem parse_cells2 {W : World} {L F : Nat} {v : Value} (v' : Value) (e n : Int) (hF : Bk W F 26 [.int .i64 0, .int .i64 0]) (hL : Bk W L 23 [v]) (hne : F ≠ L) :
    Bk (((W.setCell ⟨L, 0, none⟩ v').setCell ⟨F, 0, none⟩ (.int .i64 e)).setCell ⟨F, 1, none⟩ (.int .i64 n)) L 23 [v'] ∧ Bk (((W.setCell ⟨L, 0, none⟩ v').setCell ⟨F, 0, none⟩ (.int .i64 e)).setCell ⟨F, 1, none⟩ (.int .i64 n)) F 26 [.int .i64 e, .int .i64 n] := by
  have l2 := hL.set 0 v'
  have f1 : Bk (W.setCell ⟨L, 0, none⟩ v') F 26 [.int .i64 0, .int .i64 0] := (Below.heap_setCell _ _ _ F hne).trans hF
  exact ⟨(Below.heap_setCell _ _ _ L (fun q => hne q.symm)).trans ((Below.heap_setCell _ _ _ L (fun q => hne q.symm)).trans l2), (f1.set 0 (.int .i64 e)).set 1 (.int .i64 n)⟩
theorem own_low {w : World} {base base' size n : Nat} {e : TypeId} {v : Value} {xs : List Value} (h : w.ownsRow base e size v n xs) (hb : base' ≤ base) : w.ownsRow base' e size v n xs := by
  refine ⟨h.1, ?_⟩
  rcases h.2 with h0 | ⟨g, cap, cur, hv, hb2, r⟩
  · exact .inl h0
  · exact .inr ⟨g, cap, cur, hv, Nat.le_trans hb hb2, r⟩
/-- Parse under way, ahead of line k. -/
structure PaI (w0 : World) (D P Wm M S : Nat) (ls : List Nm) (k : Nat) (st : PS) (vo vj : Value) (W : World) : Prop where
  ps : PsAt W D P Wm M st vo vj
  low : Below D w0 W
  row : Bk W S 9 (lsC ls)
  qi : QI st (k + 1)
  eq : runP ps0 1 ls = runP st (k + 1) (ls.drop k)
theorem parse_start {w0 w1 : World} {m : Nat} (hM : Mf w1 m (fun s => (wayP s).map kV)) (hb : Below w0.heap.size w0 w1) (hm : w0.heap.size ≤ m) :
    PsAt ((w1.alloc (.map #[] 0)).alloc (.cells #[.slice none 0 0, .map (some m), .map (some w1.heap.size), .slice none 0 0] 58)) w0.heap.size (w1.heap.size + 1) m w1.heap.size ps0 (.slice none 0 0) (.slice none 0 0) ∧
    Below w0.heap.size w0 ((w1.alloc (.map #[] 0)).alloc (.cells #[.slice none 0 0, .map (some m), .map (some w1.heap.size), .slice none 0 0] 58)) := by
  have hz : (w1.alloc (.map #[] 0)).heap.size = w1.heap.size + 1 := by simp
  have hs := hb.size
  have hlt := hM.lt
  have hbk := Bk.new (w1.alloc (.map #[] 0)) 58 [.slice none 0 0, .map (some m), .map (some w1.heap.size), .slice none 0 0]
  rw [hz] at hbk
  refine ⟨⟨hbk, World.ownsRow_nil _ _ _ _, World.ownsRow_nil _ _ _ _, (hM.keep (Below.heap_alloc w1 _ m hlt)).keep (Below.heap_alloc _ _ m (by omega)), (mf_new w1).keep (Below.heap_alloc _ _ w1.heap.size (by omega)), ⟨by omega, hm, hs⟩, ⟨by omega, by omega, by omega⟩, fun g h => (by cases h), fun g h => (by cases h)⟩, (hb.alloc hs _).alloc (by omega) _⟩
set_option maxHeartbeats 4000000 in
theorem parse_short (s : Nm) (hs : s.length ≤ 262144) {B : Nat} (w : World) (hv : Tv B w) (hB : B ≤ w.heap.size) : Calls Tryz.prog 9 #[.string ⟨s.toArray⟩] w fun x w' => ParR w (parseP s) x w' := by
  have HE := Lib.hid (show (∀ e, runP ps0 1 (linesP s) = .error e → parseP s = .error e) ∧ (∀ st, runP ps0 1 (linesP s) = .ok st → parseP s = landP st.marks st.out st.jumps) from ⟨fun e h => by unfold parseP; rw [if_neg (by omega), h], fun st h => by unfold parseP; rw [if_neg (by omega), h]⟩)
  generalize parseP s = rr at *
  have hx : (((⟨s.toArray⟩ : ByteArray).size : Nat) : Int) = (s.length : Int) := by show ((s.toArray.size : Nat) : Int) = _; simp
  have d1 : decide ((262144 : Int) < (s.length : Int)) = false := decide_eq_false (by omega)
  have q1 : ¬ (262144 : Int) < (s.length : Int) := by omega
  have hmf : ∀ (fn : Fn) (first cap : Array Value) (w : World), (Instr.makeFunc fn first cap).run Tryz.prog w = .ok (.func fn first cap) w := fun _ _ _ _ => rfl
  have hmm := @run_makeMap Tryz.prog
  have HL := Lib.hid (show Bk ((w.alloc (.cells #[.slice none 0 0] 23)).alloc (.cells #[.int .i64 0, .int .i64 0] 26)) w.heap.size 23 [.slice none 0 0] from (Bk.new w 23 [.slice none 0 0]).below ((Below.refl _ _).alloc (Nat.le_refl _) (.cells #[.int .i64 0, .int .i64 0] 26)) (by simp))
  have HF := Lib.hid (Bk.new (w.alloc (.cells #[.slice none 0 0] 23)) 26 [.int .i64 0, .int .i64 0])
  have hz : (w.alloc (.cells #[.slice none 0 0] 23)).heap.size = w.heap.size + 1 := by simp
  rw [hz] at HF
  have HB0 := Lib.hid (((Below.refl _ w).alloc (Nat.le_refl _) (.cells #[.slice none 0 0] 23)).alloc (by simp) (.cells #[.int .i64 0, .int .i64 0] 26))
  have hz0 : ((w.alloc (.cells #[.slice none 0 0] 23)).alloc (.cells #[.int .i64 0, .int .i64 0] 26)).heap.size = w.heap.size + 2 := by simp
  have HZ0 := Lib.hid hz0
  clear hz hz0
  go_enter_defers Tryz.func9, Tryz.ntmps9
  go_wp2_with fail
  generalize ((w.alloc (.cells #[.slice none 0 0] 23)).alloc (.cells #[.int .i64 0, .int .i64 0] 26)) = w0 at *
  (with_reducible refine (ways_any w0 (hv.below HB0.out hB) (by have := HZ0.out; omega)).mono ?_)
  rintro _ w1 ⟨m, rfl, hm, hM, hb⟩
  have HM := Lib.hid hM
  have HB1 := Lib.hid hb
  have HMZ := Lib.hid hm
  clear hM hb hm
  go_wp2_with fail
  obtain ⟨hP0, hb3⟩ := parse_start HM.out HB1.out HMZ.out
  have hL3 := HL.out.below hb3 (by have := HZ0.out; omega)
  have hv3 := (hv.below HB0.out hB).below hb3 (by have := HZ0.out; omega)
  have HP0 := Lib.hid hP0
  have HB3 := Lib.hid hb3
  have HV3 := Lib.hid hv3
  have HPM := Lib.hid HM.out.lt
  clear hP0 hb3 hL3 hv3 HM HB1
  generalize ((w1.alloc (.map #[] 0)).alloc (.cells #[.slice none 0 0, .map (some m), .map (some w1.heap.size), .slice none 0 0] 58)) = w3 at *
  (with_reducible refine (split_lines_any s hs w3 HV3.out).mono ?_)
  rintro _ w4 ⟨rfl, rfl⟩
  have HI0 := Lib.hid (show PaI w0 w0.heap.size (w1.heap.size + 1) m w1.heap.size w3.heap.size (linesP s) 0 ps0 (.slice none 0 0) (.slice none 0 0) (w3.alloc (.cells (lsC (linesP s)).toArray 9)) from ⟨HP0.out.below ((Below.refl _ _).alloc (Nat.le_refl _) _), HB3.out.alloc HB3.out.size _, Bk.new w3 9 (lsC (linesP s)), qi0 1, rfl⟩)
  have HSH := Lib.hid (fun l (hl : l ∈ linesP s) => lines_short s [] l hl)
  have hln : (linesP s).length ≤ 262145 := by rw [lines_len]; have := List.count_le_length (a := (10 : UInt8)) (l := s); omega
  have HC := Lib.hid (fun (e n : Int) (k : Nat) (W : World) (hn : n = (k : Int)) (hW : Below w0.heap.size w0 W) (hr : rr = .error (e, k)) => parse_caught (F := w.heap.size + 1) (L := w.heap.size) (v := .slice none 0 0) e n W (HF.out.below hW (by have := HZ0.out; omega)) (HL.out.below hW (by have := HZ0.out; omega)) (by omega))
  generalize linesP s = ls at *
  generalize w3.heap.size = S at *
  generalize hM0 : w1.heap.size = M at *
  clear HP0 HB3 HV3 hM0
  go_wp2_with fail
  go_loopw [19] (fun i wr => ∃ (k : Nat) (st : PS) (vo vj : Value), k ≤ ls.length ∧ i = .int .i64 k ∧ Hid (PaI w0 w0.heap.size (M + 1) m M S ls k st vo vj wr)) (fun i _ => ls.length - (intOf i).toNat)
  case atStart => exact ⟨0, ps0, _, _, Nat.zero_le _, rfl, HI0⟩
  case round =>
    clear HI0
    obtain ⟨k, st, vo, vj, hk, rfl, HI⟩ := hrel
    by_cases hlt : k < ls.length
    · have d2 : decide ((k : Int) < (ls.length : Int)) = true := decide_eq_true (by omega)
      obtain ⟨l, hl⟩ : ∃ l, ls[k]? = some l := ⟨ls[k], List.getElem?_eq_getElem hlt⟩
      have hll := HSH.out l (List.mem_of_getElem? hl)
      simp only [List.length_nil, Nat.zero_add] at hll
      have c0 := HI.out.row.cell k
      rw [lsC, List.getElem?_map, hl] at c0
      simp only [Option.map_some] at c0
      have q2 : (0 : Int) ≤ (k : Int) := by omega
      have q3 : (k : Int) < (ls.length : Int) := by omega
      have hLA := line_any l (by omega) (k + 1) ((k : Int) + 1) (by omega) wr ((hv.below HB0.out hB).below HI.out.low (by have := HZ0.out; omega)) (Nat.le_trans hB (by have := HI.out.low.size; have := HZ0.out; omega)) HI.out.ps ⟨HI.out.qi.pi.len, Nat.le_trans HI.out.qi.jl HI.out.qi.pi.len⟩
      have HR := Lib.hid (run_drop (n := k + 1) (st := st) hl)
      have HQ := Lib.hid (fun st' (h : stepP st (k + 1) l = .ok st') => HI.out.qi.step h)
      generalize stepP st (k + 1) l = sr at *
      have HLT := Lib.hid hll
      clear hl hll
      go_wp2_with fail
      (with_reducible refine hLA.mono ?_)
      rintro x w5 ⟨hLo, hx⟩
      cases sr with
      | error e =>
        obtain ⟨e, q⟩ := e
        subst hx
        have HRR := Lib.hid (HE.out.1 (e, q) (HI.out.eq.trans HR.out))
        have HBW := Lib.hid (HI.out.low.trans hLo.bl)
        clear hLA hLo HI
        unfold Thrown
        refine leaves_cons (f := 25) (args := #[.pointer (some ⟨w.heap.size + 1, 0, none⟩), .pointer (some ⟨w.heap.size, 0, none⟩)]) (by simp) (by simp [go_sem]) ?_
        refine (HC.out e q q w5 rfl HBW.out HRR.out).mono ?_
        rintro _ _ w6 ⟨rfl, rfl, rfl⟩
        have hF := HF.out.below HBW.out (by have := HZ0.out; omega)
        have hL := HL.out.below HBW.out (by have := HZ0.out; omega)
        obtain ⟨hL2, hF2⟩ := parse_cells (.slice none 0 0) e q hF hL (by omega)
        show Leaves Tryz.prog Tryz.f9 _ _ [] .returning _
        exact ⟨_, leave_parse w.heap.size (w.heap.size + 1) (.slice none 0 0) e q _ _ (hL2.cell 0) ⟨hF2.cell 0, hF2.cell 1⟩ rfl rfl, ParR.err HRR.out ((((HB0.out.trans (HBW.out.mono (by have := HZ0.out; omega))).setCell (by show w.heap.size ≤ w.heap.size + 1; omega) _).setCell (by show w.heap.size ≤ w.heap.size + 1; omega) _).setCell (Nat.le_refl _) _)⟩
      | ok st' =>
        obtain ⟨rfl, vo', vj', hps⟩ := hx
        have HI' := Lib.hid (show PaI w0 w0.heap.size (M + 1) m M S ls (k + 1) st' vo' vj' w5 from ⟨hps, HI.out.low.trans hLo.bl, (hLo.k9 S _ _ HI.out.row).trans HI.out.row, HQ.out st' rfl, HI.out.eq.trans HR.out⟩)
        clear hLA hLo HI hps c0
        go_wp2_with fail
        go_roundw
        case rel => exact ⟨k + 1, st', vo', vj', by omega, by go_num, HI'⟩
        case measure => simp [intOf]; omega
    · have d2 : decide ((k : Int) < (ls.length : Int)) = false := decide_eq_false (by omega)
      have hdr : ls.drop k = [] := List.drop_eq_nil_of_le (by omega)
      have HRR := Lib.hid (HE.out.2 st (by rw [HI.out.eq, hdr]; rfl))
      have hLA := land_any wr HI.out.ps HI.out.qi.pi (fun j hj => by have := HI.out.qi.line j hj; omega) (fun j hj => by have := HI.out.qi.to_ j hj; omega) (fun s k h => HI.out.qi.marks h) (Nat.le_trans HI.out.qi.jl HI.out.qi.pi.len)
      rw [← HRR.out] at hLA
      clear hdr
      go_wp2_with fail
      (with_reducible refine hLA.mono ?_)
      rintro x w5 ⟨hLo, hx⟩
      have HBW := Lib.hid (HI.out.low.trans hLo)
      have hF := HF.out.below HBW.out (by have := HZ0.out; omega)
      have hL := HL.out.below HBW.out (by have := HZ0.out; omega)
      cases rr with
      | error e =>
        obtain ⟨e, q⟩ := e
        subst hx
        clear hLA hLo HI
        unfold Thrown
        refine leaves_cons (f := 25) (args := #[.pointer (some ⟨w.heap.size + 1, 0, none⟩), .pointer (some ⟨w.heap.size, 0, none⟩)]) (by simp) (by simp [go_sem]) ?_
        refine (HC.out e q q w5 rfl HBW.out rfl).mono ?_
        rintro _ _ w6 ⟨rfl, rfl, rfl⟩
        obtain ⟨hL2, hF2⟩ := parse_cells (.slice none 0 0) e q hF hL (by omega)
        show Leaves Tryz.prog Tryz.f9 _ _ [] .returning _
        exact ⟨_, leave_parse w.heap.size (w.heap.size + 1) (.slice none 0 0) e q _ _ (hL2.cell 0) ⟨hF2.cell 0, hF2.cell 1⟩ rfl rfl, ParR.err rfl ((((HB0.out.trans (HBW.out.mono (by have := HZ0.out; omega))).setCell (by show w.heap.size ≤ w.heap.size + 1; omega) _).setCell (by show w.heap.size ≤ w.heap.size + 1; omega) _).setCell (Nat.le_refl _) _)⟩
      | ok l =>
        obtain ⟨rfl, vo', hps⟩ := hx
        obtain ⟨A9, c9, rfl⟩ := own_slice hps.out
        have HPS := Lib.hid hps
        have p0 := hps.bk.cell 0
        have l0 := hL.cell 0
        have g0 := hF.cell 0
        have g1 := hF.cell 1
        have z0 := hL.frozen 0
        have z1 := hF.frozen 0
        have z2 := hF.frozen 1
        simp only [List.getElem?_cons_zero, List.getElem?_cons_succ] at p0 l0 g0 g1
        have HF5 := Lib.hid hF
        have HL5 := Lib.hid hL
        clear hLA hLo HI hps hF hL
        go_wp2_with fail
        refine leaves_cons (f := 25) (args := #[.pointer (some ⟨w.heap.size + 1, 0, none⟩), .pointer (some ⟨w.heap.size, 0, none⟩)]) (by simp) (by simp [go_sem]) ?_
        refine (parse_idle _ _ _).mono ?_
        rintro _ _ w6 ⟨rfl, rfl, rfl⟩
        obtain ⟨hL2, hF2⟩ := parse_cells2 (.slice A9 l.length c9) 0 0 HF5.out HL5.out (by omega)
        have hbl := fun g q => (HPS.out.out.lt g q).1
        refine ⟨_, leave_parse w.heap.size (w.heap.size + 1) (.slice A9 l.length c9) 0 0 _ _ (hL2.cell 0) ⟨hF2.cell 0, hF2.cell 1⟩ rfl rfl, (((HB0.out.trans (HBW.out.mono (by have := HZ0.out; omega))).setCell (Nat.le_refl _) _).setCell (by show w.heap.size ≤ w.heap.size + 1; omega) _).setCell (by show w.heap.size ≤ w.heap.size + 1; omega) _, .slice A9 l.length c9, rfl, ?_⟩
        refine own_low ?_ (show w.heap.size ≤ w0.heap.size by have := HZ0.out; omega)
        exact own_set (own_set (own_set HPS.out.out (fun g q e => by have := hbl g q; have := HZ0.out; have e : g = w.heap.size := e; omega)) (fun g q e => by have := hbl g q; have := HZ0.out; have e : g = w.heap.size + 1 := e; omega)) (fun g q e => by have := hbl g q; have := HZ0.out; have e : g = w.heap.size + 1 := e; omega)
theorem parse_any (s : Nm) (hs : s.length ≤ 1000000000) {B : Nat} (w : World) (hv : Tv B w) (hB : B ≤ w.heap.size) : Calls Tryz.prog 9 #[.string ⟨s.toArray⟩] w fun x w' => ParR w (parseP s) x w' := by
  by_cases h : s.length ≤ 262144
  · exact parse_short s h w hv hB
  · exact parse_long s (by omega) hs w
end Go.Proofs.YtjebjninlejoeaaGreatDoor
namespace Go.Proofs.YtjebjninlejoeaaGreatDoor
open Go.RowKit Go.Maps Go.ChangeMaps
set_option linter.unusedVariables false
set_option linter.unusedSimpArgs false
set_option linter.unusedSectionVars false
set_option maxRecDepth 100000

theorem Ivs.of_own {w : World} {D : Nat} {v : Value} {l : List IV} (h : w.ownsRow D 40 8 v l.length (outC l)) : ∃ A c, v = .slice A l.length c ∧ Ivs w (fun b => D ≤ b ∧ b < w.heap.size) A c l := by
  rcases h.2 with ⟨hv, h0⟩ | ⟨g, cap, cur, hv, hb, hc, h1, h2⟩
  · refine ⟨none, 0, by rw [h0]; exact hv, by omega, fun hx => absurd (List.eq_nil_of_length_eq_zero h0) hx⟩
  · refine ⟨some ⟨g, 0, none⟩, cap, hv, h1, fun _ => ⟨g, 0, rfl, ⟨hb, blk_lt hc⟩, fun j i hj m u hm => ?_⟩⟩
    subst hv
    have hm8 : m < 8 := (List.getElem?_eq_some_iff.1 hm).1
    rw [Nat.zero_add]
    exact (ins_at h (Nat.le_refl _) hj hm8).trans hm
theorem neq_iv (a1 : Int) (a2 : Bool) (a3 a4 : Int) (a5 : Bool) (a6 a7 a8 b1 : Int) (b2 : Bool) (b3 b4 : Int) (b5 : Bool) (b6 b7 b8 : Int) (w : World) :
    (binOp .neq 40 (.agg #[.int .u8 a1, .bool a2, .int .i64 a3, .int .i64 a4, .bool a5, .int .i64 a6, .int .i64 a7, .int .i64 a8]) (.agg #[.int .u8 b1, .bool b2, .int .i64 b3, .int .i64 b4, .bool b5, .int .i64 b6, .int .i64 b7, .int .i64 b8])).run Tryz.prog w = .ok (.bool (!decide ((⟨a1, a2, a3, a4, a5, a6, a7, a8⟩ : IV) = ⟨b1, b2, b3, b4, b5, b6, b7, b8⟩))) w := by
  have h := eql_iv a1 a2 a3 a4 a5 a6 a7 a8 b1 b2 b3 b4 b5 b6 b7 b8 w
  rw [run_eql_struct] at h
  rw [run_neq_struct]
  revert h
  generalize (Op.equalIn 10000 40 _ _).run Tryz.prog w = r
  intro h
  cases r with
  | ok b w' =>
    simp only [Result.andThen_ok] at h ⊢
    injection h with h1 h2
    injection h1 with h1
    subst h1 h2
    rfl
  | _ => simp [Result.andThen] at h
set_option maxHeartbeats 1000000 in
theorem sameIns_any {K K' : Nat → Prop} (A B : Option Addr) (c d : Nat) (l m : List IV) (w : World) (h : Ivs w K A c l) (h' : Ivs w K' B d m) (hl : l.length ≤ 100000) (hm : m.length ≤ 100000) : Calls Tryz.prog 17 #[.slice A l.length c, .slice B m.length d] w fun e w' => e = .returned (.bool (decide (l = m))) ∧ Below w.heap.size w w' := by
  by_cases hlm : l.length = m.length
  · have q0 : ¬ ¬ ((l.length : Int) = (m.length : Int)) := by omega
    have HM := Lib.hid hm
    have HLM := Lib.hid hlm
    rw [← hlm]
    clear hm hlm q0
    go_enter Tryz.func17, Tryz.ntmps17
    go_wp2_with fail
    go_loopw [5] (fun i wr => ∃ k : Nat, k ≤ l.length ∧ i = .int .i64 k ∧ Hid (l.take k = m.take k) ∧ Hid (Below w.heap.size w wr)) (fun i _ => l.length - (intOf i).toNat)
    case atStart => exact ⟨0, Nat.zero_le _, rfl, Lib.hid rfl, Lib.hid (Below.refl _ _)⟩
    case round =>
      obtain ⟨k, hk, rfl, HT, HB⟩ := hrel
      by_cases hlt : k < l.length
      · have d1 : decide ((k : Int) < (l.length : Int)) = true := decide_eq_true (by omega)
        obtain ⟨i, hi⟩ : ∃ i, l[k]? = some i := ⟨l[k], List.getElem?_eq_getElem hlt⟩
        obtain ⟨j, hj⟩ : ∃ j, m[k]? = some j := ⟨m[k]'(by have := HLM.out; omega), List.getElem?_eq_getElem _⟩
        obtain ⟨g, o, rfl, c0, c1, c2, c3, c4, c5, c6, c7⟩ := (h.below HB.out).at_ hi
        obtain ⟨g', o', rfl, e0, e1, e2, e3, e4, e5, e6, e7⟩ := (h'.below HB.out).at_ hj
        have q1 : (0 : Int) ≤ (k : Int) := by omega
        have q2 : (k : Int) < (l.length : Int) := by omega
        have HD := Lib.hid (HB.out.drew)
        have HIJ := Lib.hid (And.intro hi hj)
        obtain ⟨i1, i2, i3, i4, i5, i6, i7, i8⟩ := i
        obtain ⟨j1, j2, j3, j4, j5, j6, j7, j8⟩ := j
        have hq := neq_iv i1 i2 i3 i4 i5 i6 i7 i8 j1 j2 j3 j4 j5 j6 j7 j8
        clear hi hj
        by_cases hij : (⟨i1, i2, i3, i4, i5, i6, i7, i8⟩ : IV) = ⟨j1, j2, j3, j4, j5, j6, j7, j8⟩
        · rw [decide_eq_true hij] at hq
          have HT2 := Lib.hid (show l.take (k + 1) = m.take (k + 1) by rw [List.take_add_one, List.take_add_one, HIJ.out.1, HIJ.out.2, HT.out, hij])
          clear hij HIJ
          simp only [Bool.not_true] at hq
          go_wp2_with fail
          go_region
          all_goals
            go_wp2_with fail
            go_roundw
            case rel => exact ⟨k + 1, by omega, by go_num, HT2, HD⟩
            case measure => simp [intOf]; omega
        · rw [decide_eq_false hij] at hq
          have HN := Lib.hid (show decide (l = m) = false from decide_eq_false (fun e => by
            have h1 := HIJ.out.1
            rw [e, HIJ.out.2] at h1
            injection h1 with h1
            exact hij h1.symm))
          clear hij HIJ
          simp only [Bool.not_false] at hq
          go_wp2_with fail
          go_region
          all_goals
            go_wp2_with fail
            go_ret
            exact ⟨by rw [HN.out]; rfl, HD.out⟩
      · have d1 : decide ((k : Int) < (l.length : Int)) = false := decide_eq_false (by omega)
        have hN : l = m := by
          have := HT.out
          rw [List.take_of_length_le (by omega), List.take_of_length_le (by have := HLM.out; omega)] at this
          exact this
        have HN := Lib.hid (decide_eq_true hN)
        clear hN
        go_wp2_with fail
        go_ret
        exact ⟨by rw [HN.out]; rfl, HB.out⟩
  · have q0 : ¬ ((l.length : Int) = (m.length : Int)) := by omega
    have HN := Lib.hid (show decide (l = m) = false from decide_eq_false (fun e => hlm (by rw [e])))
    go_enter Tryz.func17, Tryz.ntmps17
    go_wp2_with fail
    go_ret
    exact ⟨by rw [HN.out]; rfl, Below.refl _ _⟩
/-- What Show tells of any instructions. -/
def showR (l : List IV) : Nm × Int := if 4096 < l.length then ([], 3) else if l.all rightP then (showP l, 0) else ([], 4)
theorem show_all {B : Nat} {K : Nat → Prop} (A : Option Addr) (c : Nat) (l : List IV) (w : World) (h : Ivs w K A c l) (hv : Tv B w) (hB : B ≤ w.heap.size) : Calls Tryz.prog 13 #[.slice A l.length c] w fun e w' => e = .returned (.tuple #[.string ⟨(showR l).1.toArray⟩, .int .i64 (showR l).2]) ∧ Below w.heap.size w w' := by
  unfold showR
  by_cases h1 : 4096 < l.length
  · rw [if_pos h1]
    exact show_long A c _ h1 w
  · rw [if_neg h1]
    cases h2 : l.all rightP with
    | true => exact show_right A c l w (by omega) h h2 hv hB
    | false => exact show_wrong A c l w (by omega) h h2
end Go.Proofs.YtjebjninlejoeaaGreatDoor
namespace Go.Proofs.YtjebjninlejoeaaGreatDoor
open Go.RowKit Go.Maps Go.ChangeMaps
set_option linter.unusedVariables false
set_option linter.unusedSimpArgs false
set_option linter.unusedSectionVars false
set_option maxRecDepth 100000

def aw1 : Nm := [109, 111, 118, 32, 114, 48, 44, 32, 49, 10, 106, 101, 113, 51, 50, 32, 114, 50, 44, 32, 45, 53, 44, 32, 101, 110, 100, 10, 108, 111, 97, 100, 50, 32, 114, 51, 44, 32, 91, 114, 49, 32, 43, 32, 49, 50, 93, 10, 112, 117, 116, 56, 32, 91, 114, 49, 48, 32, 45, 32, 56, 93, 44, 32, 114, 51, 10, 101, 110, 100, 58, 10, 101, 120, 105, 116]
def aw2 : Nm := [106, 117, 109, 112, 32, 104, 101, 114, 101]
def aw3 : Nm := [97, 100, 100, 32, 114, 49, 48, 44, 32, 49]
def aw4 : Nm := [106, 101, 113, 51, 50, 32, 114, 50, 44, 32, 45, 53, 44, 32, 43, 50, 10]
def awI : IV := ⟨17, true, 2, 0, true, 2, -5, 0⟩
def awL : List IV := [⟨12, false, 0, 0, true, 0, 1, 0⟩, awI, ⟨14, false, 3, 1, false, 12, 0, 2⟩, ⟨15, false, 10, 3, false, -8, 0, 8⟩, ⟨28, false, 0, 0, false, 0, 0, 0⟩]
theorem aw1_is : parseP aw1 = .ok awL := by kernel_rfl
theorem aw2_is : parseP aw2 = .error (121, 1) := by kernel_rfl
theorem aw3_is : parseP aw3 = .error (120, 1) := by kernel_rfl
theorem aw4_is : showR [awI] = (aw4, 0) := by
  have h1 : Lib.itoa 2 = [50] := itoa_lit 2 (by decide)
  have h2 : Lib.itoa (-5) = [45, 53] := by rw [itoa_minus (by decide)]; rw [show Lib.decDigits (-5 : Int).natAbs = Lib.decDigits 5 from rfl, Lib.decDigits_one (by decide)]; rfl
  have h3 : [awI].all rightP = true := by kernel_rfl
  unfold showR
  rw [if_neg (by decide), if_pos h3]
  simp [showP, showI, awI, firstS, baseS, regN, lastS, apartS, h1, h2, n32, qus, aw4]
theorem neq_ft (a b c d : Int) (w : World) : (binOp .neq 26 (.agg #[.int .i64 a, .int .i64 b]) (.agg #[.int .i64 c, .int .i64 d])).run Tryz.prog w = .ok (.bool (!((a == c) && (b == d)))) w := by
  rw [run_neq_struct]
  have h1 : Tryz.prog.underlying 26 = some (.struct (Tryz.prog.fieldsOf 26)) := by kernel_rfl
  have h2 : Tryz.prog.stoodInHeld 26 = false := by kernel_rfl
  rw [run_equalIn_struct w 9999 26 _ _ h1 h2]
  simp [go_sem, Program.fieldsOf, Op.eqFields]
  repeat' split
  all_goals simp_all
theorem Ivs.one {w : World} {K : Nat → Prop} {g o c : Nat} {l : List IV} {k : Nat} {i : IV} (h : Ivs w K (some ⟨g, o, none⟩) c l) (hk : l[k]? = some i) : Ivs w K (some ⟨g, o + k * 8, none⟩) (c - k) [i] := by
  obtain ⟨g', o', e, hg, hc⟩ := h.2 (by rintro rfl; simp at hk)
  injection e with e
  injection e with e1 e2
  subst e1 e2
  have hlt : k < l.length := (List.getElem?_eq_some_iff.1 hk).1
  refine ⟨by have := h.1; simp; omega, fun _ => ⟨g, o + k * 8, rfl, hg, fun j x hj m v hm => ?_⟩⟩
  cases j with
  | succ j => simp at hj
  | zero =>
    simp at hj
    subst hj
    simpa using hc k _ hk m v hm
set_option maxHeartbeats 2000000 in
theorem awake_any {B : Nat} (w : World) (hv : Tv B w) (hB : B ≤ w.heap.size) : Calls Tryz.prog 8 #[] w fun e w' => e = .returned (.bool true) ∧ Below w.heap.size w w' := by
  have hP1 := fun W h1 h2 => parse_any aw1 (by decide) (B := B) W h1 h2
  have hP2 := fun W h1 h2 => parse_any aw2 (by decide) (B := B) W h1 h2
  have hP3 := fun W h1 h2 => parse_any aw3 (by decide) (B := B) W h1 h2
  rw [aw1_is] at hP1
  rw [aw2_is] at hP2
  rw [aw3_is] at hP3
  unfold aw1 at hP1
  unfold aw2 at hP2
  unfold aw3 at hP3
  go_enter Tryz.func8, Tryz.ntmps8
  go_wp2_with fail
  (with_reducible refine (hP1 _ hv hB).mono ?_)
  rintro _ w1 ⟨b1, v1, rfl, h1⟩
  obtain ⟨g, cp, rfl⟩ := own_form h1 (by decide)
  obtain ⟨A1, c1, e1, hI⟩ := Ivs.of_own h1
  injection e1 with e1 e2 e3
  subst e1 e3
  have HB1 := Lib.hid b1
  have HI := Lib.hid hI
  clear b1 h1 hI e2
  unfold ftV
  go_wp2_with fail
  have HF1 := Lib.hid (Bk.new w1 26 [.int .i64 0, .int .i64 0])
  have HI2 := Lib.hid (HI.out.below ((Below.refl _ _).alloc (Nat.le_refl _) (.cells #[.int .i64 0, .int .i64 0] 26)))
  have HB2 := Lib.hid (HB1.out.alloc HB1.out.size (.cells #[.int .i64 0, .int .i64 0] 26))
  generalize hF1 : w1.heap.size = F1 at *
  generalize (w1.alloc (.cells #[.int .i64 0, .int .i64 0] 26)) = wa at *
  clear HB1 HI hF1
  (with_reducible refine (hP2 _ (hv.below HB2.out hB) (Nat.le_trans hB HB2.out.size)).mono ?_)
  rintro _ w2 ⟨b2, rfl⟩
  have HF1 := Lib.hid (HF1.out.below b2 HF1.out.lt)
  have HI := Lib.hid (HI2.out.below b2)
  have HB := Lib.hid (HB2.out.trans (b2.mono HB2.out.size))
  clear b2 HI2 HB2
  unfold ftV
  go_wp2_with fail
  have HF2 := Lib.hid (Bk.new w2 26 [.int .i64 121, .int .i64 1])
  have HF1 := Lib.hid (HF1.out.below ((Below.refl _ _).alloc (Nat.le_refl _) (.cells #[.int .i64 121, .int .i64 1] 26)) HF1.out.lt)
  have HI2 := Lib.hid (HI.out.below ((Below.refl _ _).alloc (Nat.le_refl _) (.cells #[.int .i64 121, .int .i64 1] 26)))
  have HB2 := Lib.hid (HB.out.alloc HB.out.size (.cells #[.int .i64 121, .int .i64 1] 26))
  generalize hF1 : w2.heap.size = F2 at *
  generalize (w2.alloc (.cells #[.int .i64 121, .int .i64 1] 26)) = wb at *
  clear HB HI hF1
  (with_reducible refine (hP3 _ (hv.below HB2.out hB) (Nat.le_trans hB HB2.out.size)).mono ?_)
  rintro _ w3 ⟨b3, rfl⟩
  have HF1 := Lib.hid (HF1.out.below b3 HF1.out.lt)
  have HF2 := Lib.hid (HF2.out.below b3 HF2.out.lt)
  have HI := Lib.hid (HI2.out.below b3)
  have HB := Lib.hid (HB2.out.trans (b3.mono HB2.out.size))
  clear b3 HI2 HB2
  unfold ftV
  have HF3 := Lib.hid (Bk.new w3 26 [.int .i64 120, .int .i64 1])
  have HF1 := Lib.hid (HF1.out.below ((Below.refl _ _).alloc (Nat.le_refl _) (.cells #[.int .i64 120, .int .i64 1] 26)) HF1.out.lt)
  have HF2 := Lib.hid (HF2.out.below ((Below.refl _ _).alloc (Nat.le_refl _) (.cells #[.int .i64 120, .int .i64 1] 26)) HF2.out.lt)
  have HI2 := Lib.hid (HI.out.below ((Below.refl _ _).alloc (Nat.le_refl _) (.cells #[.int .i64 120, .int .i64 1] 26)))
  have HB2 := Lib.hid (HB.out.alloc HB.out.size (.cells #[.int .i64 120, .int .i64 1] 26))
  go_upto_region 4 with fail
  generalize hF1 : w3.heap.size = F3 at *
  generalize (w3.alloc (.cells #[.int .i64 120, .int .i64 1] 26)) = wc at *
  clear HB HI hF1
  have f10 := HF1.out.cell 0
  have f20 := HF2.out.cell 0
  have f21 := HF2.out.cell 1
  have f30 := HF3.out.cell 0
  have f31 := HF3.out.cell 1
  obtain ⟨g2, o2, e2, _, _, _, _, _, k5, _, _⟩ := HI2.out.at_ (k := 1) (i := awI) rfl
  injection e2 with e2
  injection e2 with e2 e3
  subst e2 e3
  simp only [List.getElem?_cons_zero, List.getElem?_cons_succ, awI, Nat.zero_add, Nat.one_mul] at f10 f20 f21 f30 f31 k5
  have hn1 := neq_ft 121 1 121 1
  have hn2 := neq_ft 120 1 120 1
  have hln : awL.length = 5 := rfl
  rw [hln]
  have hcp : 5 ≤ cp := HI2.out.1
  have q1 : ¬ (cp : Int) < 2 := by omega
  have q2 : (2 : Int) ≤ (cp : Int) := by omega
  have hSh := show_all (some ⟨g, 0 + 1 * 8, none⟩) (cp - 1) [awI] wc (HI2.out.one (k := 1) rfl) (hv.below HB2.out hB) (Nat.le_trans hB HB2.out.size)
  rw [aw4_is] at hSh
  unfold aw4 at hSh
  simp only [List.length_cons, List.length_nil, Nat.zero_add, Nat.one_mul] at hSh
  go_wp2_with fail
  (with_reducible refine hSh.mono ?_)
  rintro _ wd ⟨rfl, bd⟩
  have HB3 := Lib.hid (HB2.out.trans (bd.mono HB2.out.size))
  go_wp2_with fail
  go_ret
  exact ⟨rfl, HB3.out⟩
end Go.Proofs.YtjebjninlejoeaaGreatDoor
namespace Go.Proofs.YtjebjninlejoeaaGreatDoor
open Go.RowKit Go.Maps Go.ChangeMaps
set_option linter.unusedVariables false
set_option linter.unusedSimpArgs false
set_option linter.unusedSectionVars false
set_option maxRecDepth 100000

theorem count10_any (s : Nm) (w : World) : Calls Tryz.prog 18 #[.string ⟨s.toArray⟩, .string ⟨#[10]⟩] w fun e w' => e = .returned (.int .i64 (s.count 10 : Nat)) ∧ w' = w := by
  refine (Tryz.strings_Count_one ⟨s.toArray⟩ 10 w).mono ?_
  rintro e w' ⟨h1, h2⟩
  refine ⟨?_, h2⟩
  rw [h1]
  simp [Lib.countByte]
/-- What a text's instructions look like, behind Parse: in a row of the call's own. -/
theorem ParR.okd {w : World} {r : Except (Int × Nat) (List IV)} {l : List IV} {x : Ending} {w' : World} (h : ParR w r x w') (hr : r = .ok l) : ∃ A c, x = .returned (.tuple #[.slice A l.length c, .agg #[.int .i64 0, .int .i64 0]]) ∧ Below w.heap.size w w' ∧ Ivs w' (fun b => w.heap.size ≤ b ∧ b < w'.heap.size) A c l := by
  subst hr
  obtain ⟨hb, vo, rfl, ho⟩ := h
  obtain ⟨A, c, rfl, hi⟩ := Ivs.of_own ho
  exact ⟨A, c, rfl, hb, hi⟩
theorem ParR.bad {w : World} {r : Except (Int × Nat) (List IV)} {e : Int} {k : Nat} {x : Ending} {w' : World} (h : ParR w r x w') (hr : r = .error (e, k)) : x = .returned (.tuple #[.slice none 0 0, .agg #[.int .i64 e, .int .i64 (k : Nat)]]) ∧ Below w.heap.size w w' := by
  subst hr
  obtain ⟨hb, rfl⟩ := h
  exact ⟨rfl, hb⟩
/-- Are they right, and not too many? -/
def rightB (l : List IV) : Bool := decide (l.length ≤ 4096) && l.all rightP
theorem showR_right {l : List IV} (h : rightB l = true) : showR l = (showP l, 0) ∧ l.length ≤ 4096 ∧ ∀ i ∈ l, rightP i = true := by
  unfold rightB at h
  simp only [Bool.and_eq_true, decide_eq_true_eq] at h
  refine ⟨?_, h.1, fun i hi => List.all_eq_true.1 h.2 i hi⟩
  unfold showR
  rw [if_neg (by omega), h.2]
  rfl
theorem showR_wrong {l : List IV} (h : rightB l = false) : ∃ e : Int, showR l = ([], e) ∧ (e = 3 ∨ e = 4) := by
  unfold showR
  by_cases h1 : 4096 < l.length
  · rw [if_pos h1]; exact ⟨3, rfl, .inl rfl⟩
  · rw [if_neg h1]
    have : l.all rightP = false := by
      unfold rightB at h
      rw [decide_eq_true (show l.length ≤ 4096 by omega)] at h
      simpa using h
    rw [this]
    exact ⟨4, rfl, .inr rfl⟩
theorem show_short {l : List IV} (h : ∀ i ∈ l, rightP i = true) (hl : l.length ≤ 4096) : (showP l).length ≤ 1000000 := by
  have := showP_len l h
  omega
set_option maxHeartbeats 4000000 in
theorem textBack_any (A : Option Addr) (c : Nat) (l : List IV) (s : Nm) (w : World) (hI : Ivs w (fun b => b < w.heap.size) A c l) (hv : Tv w.heap.size w) : Calls Tryz.prog 5 #[.slice A l.length c, .string ⟨s.toArray⟩] w fun e w' => e = .returned (.bool true) ∧ Below w.heap.size w w' := by
  have hx : (((⟨s.toArray⟩ : ByteArray).size : Nat) : Int) = (s.length : Int) := by show ((s.toArray.size : Nat) : Int) = _; simp
  have HI := Lib.hid hI
  have HV := Lib.hid hv
  clear hI hv
  go_enter Tryz.func5, Tryz.ntmps5
  go_wp2_with fail
  (with_reducible refine (awake_any w HV.out (Nat.le_refl _)).mono ?_)
  rintro _ w1 ⟨rfl, b1⟩
  have HB := Lib.hid b1
  clear b1
  by_cases h1 : 5000 < l.length
  · have d1 : decide ((5000 : Int) < (l.length : Int)) = true := decide_eq_true (by omega)
    have q1 : (5000 : Int) < (l.length : Int) := by omega
    go_wp2_with fail
    go_ret
    exact ⟨rfl, HB.out⟩
  by_cases h2 : 20000 < s.length
  · have d1 : decide ((5000 : Int) < (l.length : Int)) = false := decide_eq_false (by omega)
    have q1 : ¬ (5000 : Int) < (l.length : Int) := by omega
    have d2 : decide ((20000 : Int) < (s.length : Int)) = true := decide_eq_true (by omega)
    have q2 : (20000 : Int) < (s.length : Int) := by omega
    go_wp2_with fail
    go_ret
    exact ⟨rfl, HB.out⟩
  have HL := Lib.hid (show l.length ≤ 5000 by omega)
  have HS := Lib.hid (show s.length ≤ 20000 by omega)
  have d1 : decide ((5000 : Int) < (l.length : Int)) = false := decide_eq_false (by omega)
  have d2 : decide ((20000 : Int) < (s.length : Int)) = false := decide_eq_false (by omega)
  have q1 : ¬ (5000 : Int) < (l.length : Int) := by omega
  have q2 : ¬ (20000 : Int) < (s.length : Int) := by omega
  clear h1 h2
  obtain ⟨r0, hr0⟩ : ∃ r0, r0 = decide ((l.length : Int) ≤ 4096) := ⟨_, rfl⟩
  have HR0 := Lib.hid (show r0 = decide (l.length ≤ 4096) by rw [hr0]; by_cases h : l.length ≤ 4096 <;> simp [h] <;> omega)
  have hr1 : (decide ((l.length : Int) ≤ 4096)) = r0 := hr0.symm
  clear hr0
  go_wp2_with fail
  go_loopw [5, 6] (fun rb i wr => ∃ (k : Nat) (b : Bool), k ≤ l.length ∧ rb = .bool b ∧ i = .int .i64 k ∧ Hid (b = (r0 && (l.take k).all rightP)) ∧ Hid (Below w.heap.size w wr)) (fun _ i _ => l.length - (intOf i).toNat)
  case atStart => exact ⟨0, r0, Nat.zero_le _, rfl, rfl, Lib.hid (by simp), HB⟩
  case round =>
    clear hr1 HB
    obtain ⟨k, b, hk, rfl, rfl, HBV, HB⟩ := hrel
    by_cases hlt : k < l.length
    · have d3 : decide ((k : Int) < (l.length : Int)) = true := decide_eq_true (by omega)
      obtain ⟨i, hi⟩ : ∃ i, l[k]? = some i := ⟨l[k], List.getElem?_eq_getElem hlt⟩
      have HTK := Lib.hid (show (l.take (k + 1)).all rightP = ((l.take k).all rightP && rightP i) by rw [List.take_add_one, hi, List.all_append]; simp)
      cases b with
      | false =>
        have HN := Lib.hid (show false = (r0 && (l.take (k + 1)).all rightP) by rw [HTK.out, ← Bool.and_assoc, ← HBV.out]; rfl)
        clear hi
        go_wp2_with fail
        go_roundw
        case rel => exact ⟨k + 1, false, by omega, rfl, by go_num, HN, HB⟩
        case measure => simp [intOf]; omega
      | true =>
        have HN := Lib.hid (show rightP i = (r0 && (l.take (k + 1)).all rightP) by rw [HTK.out, ← Bool.and_assoc, ← HBV.out]; rfl)
        obtain ⟨g, o, rfl, c0, c1, c2, c3, c4, c5, c6, c7⟩ := (HI.out.keep (w' := wr) (fun g _ hg => HB.out.block g hg)).at_ hi
        have q3 : (0 : Int) ≤ (k : Int) := by omega
        have q4 : (k : Int) < (l.length : Int) := by omega
        have hR := right_any i
        obtain ⟨o1, o2, o3, o4, o5, o6, o7, o8⟩ := i
        unfold ivV at hR
        generalize rightP ⟨o1, o2, o3, o4, o5, o6, o7, o8⟩ = br at *
        clear hi
        go_wp2_with fail
        (with_reducible refine (hR _).mono ?_)
        rintro _ w2 ⟨rfl, b2⟩
        have HB2 := Lib.hid (HB.out.trans (b2.mono HB.out.size))
        clear b2 hR c0 c1 c2 c3 c4 c5 c6 c7
        go_wp2_with fail
        go_roundw
        case rel => exact ⟨k + 1, br, by omega, rfl, by go_num, HN, HB2⟩
        case measure => simp [intOf]; omega
    · have d3 : decide ((k : Int) < (l.length : Int)) = false := decide_eq_false (by omega)
      have HRB := Lib.hid (show rightB l = b by rw [HBV.out, HR0.out, List.take_of_length_le (by omega)]; rfl)
      have hSh := show_all A c l wr (HI.out.keep (w' := wr) (fun g _ hg => HB.out.block g hg)) (HV.out.below HB.out (Nat.le_refl _)) HB.out.size
      clear HBV HR0
      cases b with
      | false =>
        obtain ⟨e, he, h34⟩ := showR_wrong HRB.out
        rw [he] at hSh
        have q5 : ¬ e = 0 := by omega
        clear h34 he
        go_wp2_with fail
        (with_reducible refine hSh.mono ?_)
        rintro _ w2 ⟨rfl, b2⟩
        have HB2 := Lib.hid (HB.out.trans (b2.mono HB.out.size))
        clear b2 hSh
        go_wp2_with fail
        (with_reducible refine (parse_any s (by have := HS.out; omega) w2 (HV.out.below HB2.out (Nat.le_refl _)) HB2.out.size).mono ?_)
        rintro x w3 hP
        cases hpp : parseP s with
        | error e =>
          obtain ⟨e, q⟩ := e
          obtain ⟨rfl, b3⟩ := hP.bad hpp
          obtain ⟨hq, he⟩ := parse_err hpp
          have HB3 := Lib.hid (HB2.out.trans (b3.mono HB2.out.size))
          have hC := count10_any s
          have q6 : ¬ e = 0 := he
          have q7 : (q : Int) ≤ 1 + ((s.count 10 : Nat) : Int) := by omega
          have q8 : (0 : Int) ≤ (q : Int) := by omega
          have q9 : ((s.count 10 : Nat) : Int) ≤ 20000 := by have := List.count_le_length (a := (10 : UInt8)) (l := s); have := HS.out; omega
          clear hP hpp hq he b3
          go_wp2_with fail
          have HB4 := Lib.hid (fun m => (HB3.out.alloc HB3.out.size (.cells #[.int .i64 e, .int .i64 (q : Nat)] 26)).trans ((below_dn _ m).mono (HB3.out.alloc HB3.out.size (.cells #[.int .i64 e, .int .i64 (q : Nat)] 26)).size))
          go_quiet ((go_at_call 18; exact Calls.quiet_of_same (hC _)))
          go_wp2_with fail
          go_ret
          refine ⟨?_, HB4.out _⟩
          show Ending.returned (Value.bool _) = Ending.returned (Value.bool _)
          first | rfl | (simp; omega)
        | ok n =>
          obtain ⟨A3, c3, rfl, b3, i3⟩ := hP.okd hpp
          obtain ⟨hr, hl4⟩ := parse_right hpp
          have HB3 := Lib.hid (HB2.out.trans (b3.mono HB2.out.size))
          have I3 := Lib.hid i3
          have hbal := (Below.refl w3.heap.size w3).alloc (Nat.le_refl _) (.cells #[.int .i64 0, .int .i64 0] 26)
          have HB4 := Lib.hid (HB3.out.trans (hbal.mono HB3.out.size))
          have I4 := Lib.hid (I3.out.below hbal)
          have hSn := show_all A3 c3 n _ I4.out (HV.out.below HB4.out (Nat.le_refl _)) HB4.out.size
          have hRn : showR n = (showP n, 0) := by
            unfold showR
            rw [if_neg (by omega), if_pos (List.all_eq_true.2 hr)]
          rw [hRn] at hSn
          have HPN := Lib.hid (parse_show hr hl4)
          have HSN := Lib.hid (show_short hr hl4)
          have HL4 := Lib.hid hl4
          clear hr hl4 hRn hbal hpp
          generalize showP n = tn at *
          go_wp2_with fail
          generalize (w3.alloc (.cells #[.int .i64 0, .int .i64 0] 26)) = w4 at *
          (with_reducible refine hSn.mono ?_)
          rintro _ w5 ⟨rfl, b5⟩
          have HB5 := Lib.hid (HB4.out.trans (b5.mono HB4.out.size))
          have I5 := Lib.hid (I4.out.below b5)
          clear hSn b5 I4 HB4 I3 HB3
          go_wp2_with fail
          (with_reducible refine (parse_any tn (by have := HSN.out; omega) w5 (HV.out.below HB5.out (Nat.le_refl _)) HB5.out.size).mono ?_)
          rintro x w6 hP
          obtain ⟨A6, c6, rfl, b6, i6⟩ := hP.okd HPN.out
          have HB6 := Lib.hid (HB5.out.trans (b6.mono HB5.out.size))
          have I6 := Lib.hid (I5.out.below b6)
          have J6 := Lib.hid i6
          clear hP b6 i6 I5 HB5
          have hbal := (Below.refl w6.heap.size w6).alloc (Nat.le_refl _) (.cells #[.int .i64 0, .int .i64 0] 26)
          have HB7 := Lib.hid (HB6.out.trans (hbal.mono HB6.out.size))
          have hSI := sameIns_any A3 A6 c3 c6 n n _ (I6.out.below hbal) (J6.out.below hbal) (by have := HL4.out; omega) (by have := HL4.out; omega)
          rw [decide_eq_true rfl] at hSI
          clear hbal I6 J6 HB6
          go_wp2_with fail
          generalize (w6.alloc (.cells #[.int .i64 0, .int .i64 0] 26)) = w7 at *
          (with_reducible refine hSI.mono ?_)
          rintro _ w8 ⟨rfl, b8⟩
          have HB8 := Lib.hid (HB7.out.trans (b8.mono HB7.out.size))
          clear b8 hSI
          go_wp2_with fail
          go_ret
          exact ⟨rfl, HB8.out⟩
      | true =>
        obtain ⟨he, hl4, hri⟩ := showR_right HRB.out
        rw [he] at hSh
        have HP1 := Lib.hid (parse_show hri hl4)
        have HLEN1 := Lib.hid (show_short hri hl4)
        have HCN := Lib.hid (count_show l)
        clear he hri hl4
        go_wp2_with fail
        (with_reducible refine hSh.mono ?_)
        rintro _ w2 ⟨rfl, b2⟩
        have HB2 := Lib.hid (HB.out.trans (b2.mono HB.out.size))
        clear b2 hSh
        generalize showP l = t at *
        go_wp2_with fail
        (with_reducible refine (parse_any t (by have := HLEN1.out; omega) w2 (HV.out.below HB2.out (Nat.le_refl _)) HB2.out.size).mono ?_)
        rintro x wp hP
        obtain ⟨Ap, cp, rfl, bp, ip⟩ := hP.okd HP1.out
        have HBp := Lib.hid (HB2.out.trans (bp.mono HB2.out.size))
        have IP := Lib.hid ip
        have hbal := (Below.refl wp.heap.size wp).alloc (Nat.le_refl _) (.cells #[.int .i64 0, .int .i64 0] 26)
        have HBq := Lib.hid (HBp.out.trans (hbal.mono HBp.out.size))
        have hSI := sameIns_any A Ap c cp l l _ (HI.out.keep (fun g _ hg => HBq.out.block g hg)) (ip.below hbal) (by have := HL.out; omega) (by have := HL.out; omega)
        rw [decide_eq_true rfl] at hSI
        clear bp ip hP hbal IP HBp
        go_wp2_with fail
        generalize (wp.alloc (.cells #[.int .i64 0, .int .i64 0] 26)) = wq at *
        (with_reducible refine hSI.mono ?_)
        rintro _ wr2 ⟨rfl, br⟩
        have HBr := Lib.hid (HBq.out.trans (br.mono HBq.out.size))
        have hC1 := count10_any t
        rw [HCN.out] at hC1
        clear br hSI HB2 HBq
        go_wp2_with fail
        (with_reducible refine (hC1 _).mono ?_)
        rintro _ w2 ⟨rfl, rfl⟩
        have HB2 := HBr
        clear hC1 HBr
        go_wp2_with fail
        (with_reducible refine (parse_any s (by have := HS.out; omega) w2 (HV.out.below HB2.out (Nat.le_refl _)) HB2.out.size).mono ?_)
        rintro x w3 hP
        cases hpp : parseP s with
        | error e =>
          obtain ⟨e, q⟩ := e
          obtain ⟨rfl, b3⟩ := hP.bad hpp
          obtain ⟨hq, he⟩ := parse_err hpp
          have HB3 := Lib.hid (HB2.out.trans (b3.mono HB2.out.size))
          have hC := count10_any s
          have q6 : ¬ e = 0 := he
          have q7 : (q : Int) ≤ 1 + ((s.count 10 : Nat) : Int) := by omega
          have q8 : (0 : Int) ≤ (q : Int) := by omega
          have q9 : ((s.count 10 : Nat) : Int) ≤ 20000 := by have := List.count_le_length (a := (10 : UInt8)) (l := s); have := HS.out; omega
          clear hP hpp hq he b3
          go_wp2_with fail
          have HB4 := Lib.hid (fun m => (HB3.out.alloc HB3.out.size (.cells #[.int .i64 e, .int .i64 (q : Nat)] 26)).trans ((below_dn _ m).mono (HB3.out.alloc HB3.out.size (.cells #[.int .i64 e, .int .i64 (q : Nat)] 26)).size))
          go_quiet ((go_at_call 18; exact Calls.quiet_of_same (hC _)))
          go_wp2_with fail
          go_ret
          refine ⟨?_, HB4.out _⟩
          show Ending.returned (Value.bool _) = Ending.returned (Value.bool _)
          first | rfl | (simp; omega)
        | ok n =>
          obtain ⟨A3, c3, rfl, b3, i3⟩ := hP.okd hpp
          obtain ⟨hr, hl4⟩ := parse_right hpp
          have HB3 := Lib.hid (HB2.out.trans (b3.mono HB2.out.size))
          have I3 := Lib.hid i3
          have hbal := (Below.refl w3.heap.size w3).alloc (Nat.le_refl _) (.cells #[.int .i64 0, .int .i64 0] 26)
          have HB4 := Lib.hid (HB3.out.trans (hbal.mono HB3.out.size))
          have I4 := Lib.hid (I3.out.below hbal)
          have hSn := show_all A3 c3 n _ I4.out (HV.out.below HB4.out (Nat.le_refl _)) HB4.out.size
          have hRn : showR n = (showP n, 0) := by
            unfold showR
            rw [if_neg (by omega), if_pos (List.all_eq_true.2 hr)]
          rw [hRn] at hSn
          have HPN := Lib.hid (parse_show hr hl4)
          have HSN := Lib.hid (show_short hr hl4)
          have HL4 := Lib.hid hl4
          clear hr hl4 hRn hbal hpp
          generalize showP n = tn at *
          go_wp2_with fail
          generalize (w3.alloc (.cells #[.int .i64 0, .int .i64 0] 26)) = w4 at *
          (with_reducible refine hSn.mono ?_)
          rintro _ w5 ⟨rfl, b5⟩
          have HB5 := Lib.hid (HB4.out.trans (b5.mono HB4.out.size))
          have I5 := Lib.hid (I4.out.below b5)
          clear hSn b5 I4 HB4 I3 HB3
          go_wp2_with fail
          (with_reducible refine (parse_any tn (by have := HSN.out; omega) w5 (HV.out.below HB5.out (Nat.le_refl _)) HB5.out.size).mono ?_)
          rintro x w6 hP
          obtain ⟨A6, c6, rfl, b6, i6⟩ := hP.okd HPN.out
          have HB6 := Lib.hid (HB5.out.trans (b6.mono HB5.out.size))
          have I6 := Lib.hid (I5.out.below b6)
          have J6 := Lib.hid i6
          clear hP b6 i6 I5 HB5
          have hbal := (Below.refl w6.heap.size w6).alloc (Nat.le_refl _) (.cells #[.int .i64 0, .int .i64 0] 26)
          have HB7 := Lib.hid (HB6.out.trans (hbal.mono HB6.out.size))
          have hSI := sameIns_any A3 A6 c3 c6 n n _ (I6.out.below hbal) (J6.out.below hbal) (by have := HL4.out; omega) (by have := HL4.out; omega)
          rw [decide_eq_true rfl] at hSI
          clear hbal I6 J6 HB6
          go_wp2_with fail
          generalize (w6.alloc (.cells #[.int .i64 0, .int .i64 0] 26)) = w7 at *
          (with_reducible refine hSI.mono ?_)
          rintro _ w8 ⟨rfl, b8⟩
          have HB8 := Lib.hid (HB7.out.trans (b8.mono HB7.out.size))
          clear b8 hSI
          go_wp2_with fail
          go_ret
          exact ⟨rfl, HB8.out⟩
end Go.Proofs.YtjebjninlejoeaaGreatDoor
namespace Go.Proofs.YtjebjninlejoeaaGreatDoor
open Go.Lib
set_option linter.unusedVariables false
set_option linter.unusedSimpArgs false

theorem repl_none {s : Nm} (h : (10 : UInt8) ∉ s) : repl s = s := by
  induction s with
  | nil => rfl
  | cons c s ih =>
    have h1 : ¬ c = 10 := fun e => h (by rw [e]; exact List.mem_cons_self ..)
    have h2 := ih (fun q => h (List.mem_cons_of_mem _ q))
    unfold repl at h2 ⊢
    rw [List.flatMap_cons, if_neg h1, h2]
    rfl
theorem repl_app (a b : Nm) : repl (a ++ b) = repl a ++ repl b := by unfold repl; rw [List.flatMap_append]
theorem replaceK_repl : ∀ (k : Nat) (s : Nm), s.count 10 ≤ k → replaceK [10] (tail1 ++ [10, 32, 10]) k s = repl s
  | 0, s, h => by
    have h0 : (10 : UInt8) ∉ s := List.count_eq_zero.1 (Nat.le_zero.1 h)
    rw [replaceK, repl_none h0]
  | k + 1, s, h => by
    rw [replaceK, index_one]
    rcases first_at s 10 with h0 | ⟨a, b, rfl, ha⟩
    · rw [index_not s 10 h0, repl_none h0]
      rfl
    · have hc : b.count 10 ≤ k := by
        rw [List.count_append, List.count_cons_self] at h
        omega
      rw [index_mid a b 10 ha]
      have e : ((a.length : Int) == -1) = false := by simp
      rw [e]
      simp only [Bool.false_eq_true, if_false, Int.toNat_natCast, List.length_singleton]
      rw [List.take_left, show List.drop (a.length + 1) (a ++ 10 :: b) = b by rw [show a ++ 10 :: b = (a ++ [10]) ++ b by simp, List.drop_left' (by simp)]]
      rw [replaceK_repl k b hc, repl_app, repl_none ha]
      rw [show repl (10 :: b) = (tail1 ++ [10, 32, 10]) ++ repl b by unfold repl; rw [List.flatMap_cons, if_pos rfl]]
      simp
theorem replaceAll_repl (s : Nm) : replaceAll s [10] (tail1 ++ [10, 32, 10]) = repl s := by
  unfold replaceAll replace
  have h1 : (([10] : List UInt8) == tail1 ++ [10, 32, 10]) = false := by decide
  rw [h1]
  have h2 : replaceNum s [10] (-1) = s.count 10 := by
    unfold replaceNum
    rw [if_pos (.inl (by decide)), count_one]
  simp only [Bool.false_eq_true, if_false]
  rw [h2]
  exact replaceK_repl _ s (Nat.le_refl _)
/-- Is there a byte in a text? -/
theorem has_byte (s : Nm) (c : UInt8) : decide (0 ≤ indexByte s c) = decide (c ∈ s) := by
  rcases first_at s c with h | ⟨a, b, rfl, ha⟩
  · rw [index_not s c h, decide_eq_false h]; rfl
  · rw [index_mid a b c ha]; simp
end Go.Proofs.YtjebjninlejoeaaGreatDoor
namespace Go.Proofs.YtjebjninlejoeaaGreatDoor
open Go.RowKit Go.Maps Go.ChangeMaps
set_option linter.unusedVariables false
set_option linter.unusedSimpArgs false
set_option linter.unusedSectionVars false
set_option maxRecDepth 100000

theorem own_below {w w' : World} {base size n : Nat} {e : TypeId} {v : Value} {xs : List Value} (h : w.ownsRow base e size v n xs) (hb : Below w.heap.size w w') : w'.ownsRow base e size v n xs := own_keep h fun g hg => hb.block g (h.lt g hg).2
theorem own_src {w : World} {base size n : Nat} {e : TypeId} {v : Value} {xs : List Value} (h : w.ownsRow base e size v n xs) : ∃ A c, v = .slice A n c ∧ (A = none → n = 0 ∧ c = 0) ∧ (∀ ad, A = some ad → ∀ j u, xs[j]? = some u → w.cell? (ad.add j) = some u) := by
  rcases h.2 with ⟨rfl, h0⟩ | ⟨g, cap, cur, rfl, hb, hc, r⟩
  · subst h0; exact ⟨_, _, rfl, fun _ => ⟨rfl, rfl⟩, fun ad e => by cases e⟩
  · exact ⟨_, _, rfl, fun e => (by cases e), fun ad e => by injection e with e; subst e; exact h.cells rfl⟩
theorem own_new0 (w : World) (base : Nat) (e : TypeId) (size : Nat) (hb : base ≤ w.heap.size) : (w.alloc (.cells #[] e)).ownsRow base e size (.slice (some ⟨w.heap.size, 0, none⟩) 0 0) 0 [] :=
  ⟨by simp, .inr ⟨w.heap.size, 0, #[], rfl, hb, heap_alloc_new w _, Nat.le_refl _, Nat.zero_le _, by simp, by simp⟩⟩
section
variable {P : Program} {w : World}
theorem wpList_append_ownG {ops : Array Oper} {rest : List Oper} {o : Oper} {a : Act} {Q : Exit → Act → World → Prop} (hw : Region.wanted o (yielded ops a.tmps) = true) (s x : Operand) (t : TypeId)
    (ho : o.op = .call { callee := .builtin .append, args := #[s, x], argTypes := #[t, t] }) (base : Nat)
    (e : TypeId) (i : TypeInfo) (z : Value) (size bytes : Nat) (ht : P.underlying t = some (.slice e)) (hi : P.info? e = some i) (hz : i.zero = some z)
    (hsize : i.size = size) (hby : i.bytes = bytes) (hzs : z.cells.size = size) (hsz : 0 < size)
    (v : Value) (n : Nat) (xs : List Value) (hs : a.eval s = v) (hown : w.ownsRow base e size v n xs)
    (A : Option Addr) (m c : Nat) (news : List Value) (hx : a.eval x = .slice A m c) (hl : news.length = m * size) (hnone : A = none → m = 0 ∧ c = 0) (hnews : ∀ ad, A = some ad → ∀ j u, news[j]? = some u → w.cell? (ad.add j) = some u) (h1 : ∀ u ∈ news, u.oneCell' = true)
    (h63 : n + m ≤ maxLen) (hbytes : (n + m) * bytes ≤ 140737488355328) (hbase : base ≤ w.heap.size)
    (h : ∀ v' w', w'.ownsRow base e size v' (n + m) (xs ++ news) → w.grownBy w' v.ownBlock → wpList P ops Q rest (a.put o.dst v') w') : wpList P ops Q (o :: rest) a w := by
  rw [wpList, if_pos hw]
  refine .inl ?_
  obtain ⟨v', w', hr, h2, h3⟩ := run_append_ownA (P := P) (w := w) (t := t) (ty := o.type) base e i z size bytes ht hi hz hsize hby hzs hsz v n xs hown A m c news hl hnone hnews h1 h63 hbytes hbase
  unfold Oper.wp execOp
  simp only [ho, resolve, invoke, builtin, Sem.run_bind, Sem.run_pure, Result.andThen_ok, List.map_toArray, List.map_cons, List.map_nil, hs, hx, hr]
  exact h v' w' h2 h3
end
theorem ParR.row {w : World} {r : Except (Int × Nat) (List IV)} {l : List IV} {x : Ending} {w' : World} (h : ParR w r x w') (hr : r = .ok l) : ∃ A c, x = .returned (.tuple #[.slice A l.length c, .agg #[.int .i64 0, .int .i64 0]]) ∧ Below w.heap.size w w' ∧ w'.ownsRow w.heap.size 40 8 (.slice A l.length c) l.length (outC l) := by
  subst hr
  obtain ⟨hb, vo, rfl, ho⟩ := h
  obtain ⟨A, c, rfl, _⟩ := own_src ho
  exact ⟨A, c, rfl, hb, ho⟩
theorem ParR.form {w : World} {r : Except (Int × Nat) (List IV)} {x : Ending} {w' : World} (h : ParR w r x w') : ∃ A n c e k, x = .returned (.tuple #[.slice A n c, .agg #[.int .i64 e, .int .i64 k]]) ∧ Below w.heap.size w w' := by
  cases r with
  | error e =>
    obtain ⟨rfl, hb⟩ := h.bad rfl
    exact ⟨none, 0, 0, _, _, rfl, hb⟩
  | ok l =>
    obtain ⟨A, c, rfl, hb, _⟩ := h.row rfl
    exact ⟨A, l.length, c, 0, 0, rfl, hb⟩
theorem outC_one (l : List IV) : ∀ u ∈ outC l, u.oneCell' = true := by
  intro u hu
  unfold outC at hu
  obtain ⟨i, _, hi⟩ := List.mem_flatMap.1 hu
  simp [ivV] at hi
  rcases hi with rfl | rfl | rfl | rfl | rfl | rfl | rfl | rfl <;> rfl
theorem has58_any (s : Nm) (w : World) : Calls Tryz.prog 19 #[.string ⟨s.toArray⟩, .string ⟨#[58]⟩] w fun e w' => e = .returned (.bool (decide ((58 : UInt8) ∈ s))) ∧ w' = w := by
  refine (Tryz.strings_Contains_one ⟨s.toArray⟩ 58 w).mono ?_
  rintro e w' ⟨h1, h2⟩
  refine ⟨?_, h2⟩
  rw [h1, show (⟨s.toArray⟩ : ByteArray).data.toList = s by simp, has_byte]
theorem repl_any (s : Nm) (hs : s.length ≤ 20000) {B : Nat} (w : World) (hv : Tv B w) : Calls Tryz.prog 20 #[.string ⟨s.toArray⟩, .string ⟨#[10]⟩, .string ⟨#[32, 35, 32, 120, 58, 32, 91, 10, 32, 10]⟩] w fun e w' => e = .returned (.string ⟨(repl s).toArray⟩) ∧ Below w.heap.size w w' := by
  obtain ⟨m, hm⟩ := hv.ml
  have hc : s.count 10 ≤ 20000 := Nat.le_trans (List.count_le_length ..) hs
  refine (Tryz.strings_ReplaceAll ⟨s.toArray⟩ ⟨#[10]⟩ ⟨#[32, 35, 32, 120, 58, 32, 91, 10, 32, 10]⟩ m w (by show s.toArray.size < _; simp; omega) hm (by decide) (by rw [count_is, show (⟨s.toArray⟩ : ByteArray).data.toList = s by simp]; show s.toArray.size + s.count 10 * 10 ≤ _; simp; omega)).mono ?_
  rintro e w' ⟨h1, h2⟩
  refine ⟨?_, h2⟩
  rw [h1, show (⟨s.toArray⟩ : ByteArray).data.toList = s by simp]
  exact congrArg (fun q : List UInt8 => Ending.returned (.string ⟨q.toArray⟩)) (replaceAll_repl s)
set_option maxHeartbeats 4000000 in
theorem textRows_any (a b : Nm) (ha0 : a.length ≤ 140737488351232) (hb0 : b.length ≤ 140737488351232) (w : World) (hv : Tv w.heap.size w) : Calls Tryz.prog 6 #[.string ⟨a.toArray⟩, .string ⟨b.toArray⟩] w fun e w' => e = .returned (.bool true) ∧ Below w.heap.size w w' := by
  have hx : (((⟨a.toArray⟩ : ByteArray).size : Nat) : Int) = (a.length : Int) := by show ((a.toArray.size : Nat) : Int) = _; simp
  have hy : (((⟨b.toArray⟩ : ByteArray).size : Nat) : Int) = (b.length : Int) := by show ((b.toArray.size : Nat) : Int) = _; simp
  have HV := Lib.hid hv
  have hca := has58_any a
  have hcb := has58_any b
  have q0 : (a.length : Int) ≤ 140737488351232 := by omega
  have q1 : (b.length : Int) ≤ 140737488351232 := by omega
  clear hv ha0 hb0
  go_enter Tryz.func6, Tryz.ntmps6
  go_wp2_with fail
  (with_reducible refine (awake_any w HV.out (Nat.le_refl _)).mono ?_)
  rintro _ w1 ⟨rfl, b1⟩
  have HB := Lib.hid b1
  clear b1
  by_cases h1 : 20000 < a.length + b.length
  · have q2 : (20000 : Int) < (a.length : Int) + (b.length : Int) := by omega
    go_wp2_with fail
    go_ret
    exact ⟨rfl, HB.out⟩
  have q2 : ¬ (20000 : Int) < (a.length : Int) + (b.length : Int) := by omega
  have HL := Lib.hid (show a.length + b.length ≤ 20000 by omega)
  clear h1
  by_cases h58a : (58 : UInt8) ∈ a
  · rw [decide_eq_true h58a] at hca
    clear h58a
    go_wp2_with fail
    (with_reducible refine (hca _).mono ?_)
    rintro _ w2 ⟨rfl, rfl⟩
    go_wp2_with fail
    go_ret
    exact ⟨rfl, HB.out⟩
  have HA8 := Lib.hid h58a
  rw [decide_eq_false h58a] at hca
  clear h58a
  by_cases h58b : (58 : UInt8) ∈ b
  · rw [decide_eq_true h58b] at hcb
    clear h58b
    go_wp2_with fail
    (with_reducible refine (hca _).mono ?_)
    rintro _ w2 ⟨rfl, rfl⟩
    go_wp2_with fail
    (with_reducible refine (hcb _).mono ?_)
    rintro _ w2 ⟨rfl, rfl⟩
    go_wp2_with fail
    go_ret
    exact ⟨rfl, HB.out⟩
  have HB8 := Lib.hid h58b
  rw [decide_eq_false h58b] at hcb
  clear h58b
  go_wp2_with fail
  (with_reducible refine (hca _).mono ?_)
  rintro _ w2 ⟨rfl, rfl⟩
  go_wp2_with fail
  (with_reducible refine (hcb _).mono ?_)
  rintro _ w2 ⟨rfl, rfl⟩
  clear hca hcb
  go_wp2_with fail
  (with_reducible refine (parse_any a (by have := HL.out; omega) _ (HV.out.below HB.out (Nat.le_refl _)) HB.out.size).mono ?_)
  rintro xa w3 hP
  cases hpa : parseP a with
  | error e =>
    obtain ⟨e, q⟩ := e
    obtain ⟨rfl, b3⟩ := hP.bad hpa
    have he : ¬ e = 0 := (parse_err hpa).2
    have HB3 := Lib.hid (HB.out.trans (b3.mono HB.out.size))
    clear hP b3 hpa
    go_wp2_with fail
    have HB4 := Lib.hid (HB3.out.alloc HB3.out.size (.cells #[.int .i64 e, .int .i64 (q : Nat)] 26))
    have HF := Lib.hid (Bk.new w3 26 [.int .i64 e, .int .i64 (q : Nat)])
    generalize (w3.alloc (.cells #[.int .i64 e, .int .i64 (q : Nat)] 26)) = w4 at *
    generalize w3.heap.size = F at *
    (with_reducible refine (parse_any b (by have := HL.out; omega) _ (HV.out.below HB4.out (Nat.le_refl _)) HB4.out.size).mono ?_)
    rintro xb w5 hP
    obtain ⟨A5, n5, c5, e5, k5, rfl, b5⟩ := hP.form
    have hf := (HF.out.below (b5.alloc b5.size (.cells #[.int .i64 e5, .int .i64 k5] 26)) HF.out.lt).cell 0
    simp only [List.getElem?_cons_zero] at hf
    have HB5 := Lib.hid ((HB4.out.trans (b5.mono HB4.out.size)).alloc (Nat.le_trans HB4.out.size b5.size) (.cells #[.int .i64 e5, .int .i64 k5] 26))
    clear hP b5
    go_wp2_with fail
    go_ret
    exact ⟨rfl, HB5.out⟩
  | ok x =>
    obtain ⟨A3, c3, rfl, b3, o3⟩ := hP.row hpa
    have HPA := Lib.hid hpa
    have HB3 := Lib.hid (HB.out.trans (b3.mono HB.out.size))
    have O3 := Lib.hid o3
    have HLX := Lib.hid (parse_right hpa).2
    clear hP b3 hpa o3
    go_wp2_with fail
    have hba := (Below.refl w3.heap.size w3).alloc (Nat.le_refl _) (.cells #[.int .i64 0, .int .i64 0] 26)
    have HB4 := Lib.hid (HB3.out.trans (hba.mono HB3.out.size))
    have HF := Lib.hid (Bk.new w3 26 [.int .i64 0, .int .i64 0])
    have O4 := Lib.hid (own_below O3.out hba)
    clear hba O3 HB3
    generalize (w3.alloc (.cells #[.int .i64 0, .int .i64 0] 26)) = w4 at *
    generalize w3.heap.size = F at *
    (with_reducible refine (parse_any b (by have := HL.out; omega) _ (HV.out.below HB4.out (Nat.le_refl _)) HB4.out.size).mono ?_)
    rintro xb w5 hP
    cases hpb : parseP b with
    | error e =>
      obtain ⟨e, q⟩ := e
      obtain ⟨rfl, b5⟩ := hP.bad hpb
      have he : ¬ e = 0 := (parse_err hpb).2
      have hf := (HF.out.below (b5.alloc b5.size (.cells #[.int .i64 e, .int .i64 (q : Nat)] 26)) HF.out.lt).cell 0
      simp only [List.getElem?_cons_zero] at hf
      have HB5 := Lib.hid ((HB4.out.trans (b5.mono HB4.out.size)).alloc (Nat.le_trans HB4.out.size b5.size) (.cells #[.int .i64 e, .int .i64 (q : Nat)] 26))
      clear hP b5 hpb
      go_wp2_with fail
      go_ret
      exact ⟨rfl, HB5.out⟩
    | ok y =>
      obtain ⟨A5, c5, rfl, b5, o5⟩ := hP.row hpb
      have HPB := Lib.hid hpb
      have HLY := Lib.hid (parse_right hpb).2
      have hba := (b5.alloc b5.size (.cells #[.int .i64 0, .int .i64 0] 26))
      have hba2 := (Below.refl w5.heap.size w5).alloc (Nat.le_refl _) (.cells #[.int .i64 0, .int .i64 0] 26)
      have hf := (HF.out.below hba HF.out.lt).cell 0
      simp only [List.getElem?_cons_zero] at hf
      have HB5 := Lib.hid (HB4.out.trans (hba.mono HB4.out.size))
      have O5 := Lib.hid (own_below O4.out hba)
      have P5 := Lib.hid (own_below o5 hba2)
      have hf2 := (Bk.new w5 26 [.int .i64 0, .int .i64 0]).cell 0
      simp only [List.getElem?_cons_zero] at hf2
      clear hP b5 hpb o5 hba hba2 O4 HB4
      have HXY := Lib.hid (show x.length ≤ 4096 ∧ y.length ≤ 4096 from ⟨HLX.out, HLY.out⟩)
      have q4 : (x.length : Int) ≤ 4096 := by have := HLX.out; omega
      have q5 : (y.length : Int) ≤ 4096 := by have := HLY.out; omega
      by_cases h4 : 4096 < x.length + y.length
      · have q3 : (4096 : Int) < (x.length : Int) + (y.length : Int) := by omega
        clear h4
        go_wp2_with fail
        go_ret
        exact ⟨rfl, HB5.out⟩
      have q3 : ¬ (4096 : Int) < (x.length : Int) + (y.length : Int) := by omega
      have HPAB := Lib.hid (parse_both HPA.out HPB.out HA8.out HB8.out (by omega) HL.out)
      clear h4 HPA HPB HA8 HB8
      have hRep := repl_any a (by have := HL.out; omega) (w5.alloc (.cells #[.int .i64 0, .int .i64 0] 26)) (HV.out.below HB5.out (Nat.le_refl _))
      have HRL := Lib.hid (repl_len a)
      have HBO := Lib.hid (show bothT a b = ([35, 32, 102, 105, 114, 115, 116, 10, 9] : Nm) ++ repl a ++ [13, 10, 10] ++ b ++ [10, 35] from rfl)
      generalize bothT a b = tt at *
      generalize repl a = ra at *
      go_wp2_with fail
      generalize (w5.alloc (.cells #[.int .i64 0, .int .i64 0] 26)) = w6 at *
      generalize w5.heap.size = G at *
      (with_reducible refine hRep.mono ?_)
      rintro _ w7 ⟨rfl, b7⟩
      have HB7 := Lib.hid (HB5.out.trans (b7.mono HB5.out.size))
      have O7 := Lib.hid (own_below O5.out b7)
      have P7 := Lib.hid (own_below P5.out b7)
      clear b7 hRep O5 P5 HB5 hf hf2
      have z0 : ra.length ≤ 200000 := by have := HRL.out; have := HL.out; omega
      have zb : b.length ≤ 20000 := by have := HL.out; omega
      have z1 : ¬ 9223372036854775807 < 9 + ra.length := by omega
      have z2 : ¬ 9223372036854775807 < 9 + ra.length + 3 := by omega
      have z3 : ¬ 9223372036854775807 < 9 + ra.length + 3 + b.length := by omega
      have z4 : ¬ 9223372036854775807 < 9 + ra.length + 3 + b.length + 2 := by omega
      go_wp2_with fail
      have hcat : ((⟨#[35, 32, 102, 105, 114, 115, 116, 10, 9]⟩ : ByteArray) ++ ⟨ra.toArray⟩ ++ ⟨#[13, 10, 10]⟩ ++ ⟨b.toArray⟩ ++ ⟨#[10, 35]⟩) = ⟨tt.toArray⟩ := by
        rw [HBO.out, cat_is, cat_is, cat_is, cat_is]
      have HTL := Lib.hid (show tt.length ≤ 1000000000 by rw [HBO.out]; simp only [List.length_append, List.length_cons, List.length_nil]; omega)
      rw [hcat]
      clear hcat z1 z2 z3 z4 z0 zb HBO HRL
      (with_reducible refine (parse_any tt HTL.out w7 (HV.out.below HB7.out (Nat.le_refl _)) HB7.out.size).mono ?_)
      rintro xt w8 hP
      obtain ⟨A8, c8, rfl, b8, o8⟩ := hP.row HPAB.out
      have hba := b8.alloc b8.size (.cells #[.int .i64 0, .int .i64 0] 26)
      have hba2 := (Below.refl w8.heap.size w8).alloc (Nat.le_refl _) (.cells #[.int .i64 0, .int .i64 0] 26)
      have HB8' := Lib.hid (HB7.out.trans (hba.mono HB7.out.size))
      have O8 := Lib.hid (own_below O7.out hba)
      have P8 := Lib.hid (own_below P7.out hba)
      have Z8 := Lib.hid (own_below o8 hba2)
      have f8 := (Bk.new w8 26 [.int .i64 0, .int .i64 0]).cell 0
      simp only [List.getElem?_cons_zero] at f8
      clear hP b8 o8 hba hba2 O7 P7 HB7
      obtain ⟨i0, hi0, hz0, hz1, hz2⟩ := info_ins
      have hbn := HB8'.out.alloc HB8'.out.size (.cells #[] 40)
      have hbn2 := (Below.refl (w8.alloc (.cells #[.int .i64 0, .int .i64 0] 26)).heap.size (w8.alloc (.cells #[.int .i64 0, .int .i64 0] 26))).alloc (Nat.le_refl _) (.cells #[] 40)
      have hz8 : (w8.alloc (.cells #[.int .i64 0, .int .i64 0] 26)).heap.size = w8.heap.size + 1 := by simp
      have hnew := own_new0 (w8.alloc (.cells #[.int .i64 0, .int .i64 0] 26)) (w8.heap.size + 1) 40 8 (by rw [hz8]; exact Nat.le_refl _)
      rw [hz8] at hnew
      have hxo := own_below O8.out hbn2
      have hyo := own_below P8.out hbn2
      have hzo := own_below Z8.out hbn2
      obtain ⟨Ax, cx, ex, nx, sx⟩ := own_src hxo
      injection ex with ex1 ex2 ex3
      subst ex1 ex3
      have hyb : ∀ g, (Value.slice A5 y.length c5).ownBlock = some g → g < w8.heap.size + 1 := fun g q => by have := (P8.out.lt g q).2; rw [hz8] at this; exact this
      have hzb : ∀ g, (Value.slice A8 (x ++ y).length c8).ownBlock = some g → g < w8.heap.size + 1 := fun g q => by have := (Z8.out.lt g q).2; rw [hz8] at this; exact this
      have hws : w.heap.size ≤ w8.heap.size + 1 := by have := HB8'.out.size; rw [hz8] at this; exact this
      have HF8 := Lib.hid ((Bk.new w8 26 [.int .i64 0, .int .i64 0]).below hbn2 (by rw [hz8]; omega))
      clear O8 P8 Z8 HB8' hbn2
      go_wp2_with (first
        | (at_builtin; (refine wpList_append_ownG (by rfl) (.tmp 69) (.tmp 70) 23 (by rfl) (w8.heap.size + 1) 40 i0 _ 8 56 Tryz.underlying23 hi0 hz0 hz1 hz2 rfl (by decide) _ 0 [] (by rfl) hnew A3 x.length c3 (outC x) (by rfl) (outC_len x) nx sx (outC_one x) (by unfold maxLen; omega) (by omega) (by simp) ?_); (intro v9 w9 hr9 hg9; rw [Nat.zero_add, List.nil_append] at hr9; have hy9 := own_keep hyo (fun g q => hg9.block g (hyo.lt g q).2 (fun e => by have e2 : g = w8.heap.size + 1 := Option.some.inj e; have := hyb g q; omega)); have hz9 := own_keep hzo (fun g q => hg9.block g (hzo.lt g q).2 (fun e => by have e2 : g = w8.heap.size + 1 := Option.some.inj e; have := hzb g q; omega)); have hb9 := hbn.grown hg9 hbn.size (fun g e => by have e2 : w8.heap.size + 1 = g := Option.some.inj e; omega); obtain ⟨Ay, cy, ey, ny, sy⟩ := own_src hy9; injection ey with ey1 ey2 ey3; subst ey1 ey3; have hs9 := hg9.size; clear hg9 hyo hzo hbn hnew hxo nx sx))
        | (at_builtin; (refine wpList_append_ownG (by rfl) (.tmp 71) (.tmp 72) 23 (by rfl) (w8.heap.size + 1) 40 i0 _ 8 56 Tryz.underlying23 hi0 hz0 hz1 hz2 rfl (by decide) _ x.length (outC x) (by rfl) hr9 A5 y.length c5 (outC y) (by rfl) (outC_len y) ny sy (outC_one y) (by unfold maxLen; omega) (by omega) (by simp at hs9; omega) ?_); intro v10 w10 hr10 hg10))
      have hb10 := hb9.grown hg10 hb9.size (fun g e => by have := (hr9.lt g e).1; omega)
      have hz10 := own_keep hz9 (fun g q => hg10.block g (hz9.lt g q).2 (fun e => by have := (hr9.lt g e.symm).1; have := hzb g q; omega))
      have ho : outC x ++ outC y = outC (x ++ y) := by simp [outC]
      rw [ho, ← List.length_append] at hr10
      obtain ⟨A10, c10, e10, i10⟩ := Ivs.of_own hr10
      obtain ⟨A11, c11, e11, i11⟩ := Ivs.of_own hz10
      injection e11 with e1 e2 e3
      subst e1 e3
      have hSI := sameIns_any A8 A10 c8 c10 (x ++ y) (x ++ y) w10 i11 i10 (by rw [List.length_append]; omega) (by rw [List.length_append]; omega)
      rw [decide_eq_true rfl] at hSI
      simp only [List.length_append] at hSI e10
      subst e10
      have HB10 := Lib.hid hb10
      clear hg10 hr10 hz10 i10 i11 hr9 hz9 hy9 hb9 sy ny hb10 ho
      (with_reducible refine hSI.mono ?_)
      rintro _ w11 ⟨rfl, b11⟩
      have HB11 := Lib.hid (HB10.out.trans (b11.mono HB10.out.size))
      clear b11 hSI
      go_wp2_with fail
      go_ret
      exact ⟨rfl, HB11.out⟩
end Go.Proofs.YtjebjninlejoeaaGreatDoor
namespace Go.Proofs.YtjebjninlejoeaaGreatDoor
open Go.RowKit Go.ChangeShapes Go.WideShapes Go.ChangeAt Go.Deep
set_option linter.unusedVariables false
set_option linter.unusedSimpArgs false
set_option linter.unusedSectionVars false
set_option maxRecDepth 100000

theorem tabIs_of_reads {P : Program} {W : World} {name : String} {k : IntKind} {zs : List Int} {g : Nat} {t e : TypeId} {n : Nat}
    (hg : P.globalNamed name = some g) (hty : (P.globals[g]?).map (·.type) = some t) (ht : P.underlying t = some (.array n e)) (he : P.underlying e = some (.int k)) (hce : P.cellsOf e = 1) (hct : P.cellsOf t = n)
    (h : Lib.VarReads P W name (Lib.tabData k zs)) : Lib.TabIs P W name k zs := by
  obtain ⟨g', t', cs, fuel, p, hg', ht', hvar, hd⟩ := h
  obtain rfl := Option.some.inj (hg.symm.trans hg')
  obtain rfl := Option.some.inj (hty.symm.trans ht')
  unfold Lib.TabIs
  rw [hvar, ← Lib.cells_of_tab ht he hce hct hd]
theorem var_lt {P : Program} {W : World} {name : String} {g : Nat} {cs : Array Value} (hg : P.globalNamed name = some g) (h : W.var? P name = some cs) : g < W.heap.size := by
  unfold World.var? at h
  rw [hg] at h
  simp only [Option.bind_some] at h
  rcases Nat.lt_or_ge g W.heap.size with h' | h'
  · exact h'
  · rw [Array.getElem?_eq_none h'] at h; cases h
theorem iface_of_reads {P : Program} {W : World} {name s : String} {d : DataW Unit} {g : Nat} {t : TypeId} (hg : P.globalNamed name = some g) (hty : (P.globals[g]?).map (·.type) = some t) (hu : ∃ m, P.underlying t = some (.interface m))
    (h : Lib.VarReads P W name (.iface s d)) : ∃ tp p, W.var? P name = some #[.iface tp p] := by
  obtain ⟨m, hu⟩ := hu
  obtain ⟨g', t', cs, fuel, p, hg', ht', hvar, hd⟩ := h
  obtain rfl := Option.some.inj (hg.symm.trans hg')
  obtain rfl := Option.some.inj (hty.symm.trans ht')
  cases fuel with
  | zero => simp [DataW.trod] at hd
  | succ fuel =>
    unfold DataW.trod at hd
    rw [hu] at hd
    cases hc : cs.toList with
    | nil => rw [hc] at hd; simp at hd
    | cons c l =>
      rw [hc] at hd
      cases l with
      | cons c2 l => cases c <;> simp at hd
      | nil =>
        have hcs : cs = #[c] := by cases cs; simp_all
        cases c with
        | iface u v => exact ⟨u, v, by rw [hvar, hcs]⟩
        | _ => simp at hd
theorem powData : Rows.laid_internal_strconv_uint64pow10 = (Lib.tabData .u64 Lib.pow10Tab : DataW Unit) := by kernel_rfl
theorem spData : Rows.laid_strings_asciiSpace = (Lib.tabData .u8 Lib.asciiSpaceTab : DataW Unit) := by kernel_rfl
/-- Nine of them are listed. -/
theorem tv_of_laid {W : World} (h : laidMetH Tryz.prog Rows.textBackRow.laid W) (hs : W.ShapedOpen Tryz.prog) : Tv W.heap.size W := by
  rw [MakeChecks.laidMetH_plain _ _ _ (by kernel_rfl)] at h
  have m1 : ("internal/strconv.uint64pow10", Rows.laid_internal_strconv_uint64pow10) ∈ Rows.textBackRow.laid := .tail _ (.tail _ (.head _))
  have m2 : ("strings.asciiSpace", Rows.laid_strings_asciiSpace) ∈ Rows.textBackRow.laid := .tail _ (.tail _ (.tail _ (.tail _ (.tail _ (.tail _ (.tail _ (.head _)))))))
  have m3 : ("strconv.ErrRange", Rows.laid_strconv_ErrRange) ∈ Rows.textBackRow.laid := .tail _ (.tail _ (.tail _ (.tail _ (.head _))))
  have m4 : ("strconv.ErrSyntax", Rows.laid_strconv_ErrSyntax) ∈ Rows.textBackRow.laid := .tail _ (.tail _ (.tail _ (.tail _ (.tail _ (.head _)))))
  rw [powData] at m1
  rw [spData] at m2
  have h1 : Lib.TabIs Tryz.prog W "internal/strconv.uint64pow10" .u64 Lib.pow10Tab :=
    tabIs_of_reads gPow (t := 328) (e := 183) (n := 20) (by kernel_rfl) Tryz.underlying328 Tryz.underlying183 (by kernel_rfl) (by kernel_rfl) (Lib.laidMet.reads h m1)
  have h2 : Lib.TabIs Tryz.prog W "strings.asciiSpace" .u8 Lib.asciiSpaceTab :=
    tabIs_of_reads gSp (t := 274) (e := 5) (n := 256) (by kernel_rfl) Tryz.underlying274 Tryz.underlying5 (by kernel_rfl) (by kernel_rfl) (Lib.laidMet.reads h m2)
  obtain ⟨t3, p3, h3⟩ := iface_of_reads gRa (t := 90) (by kernel_rfl) ⟨_, Tryz.underlying90⟩ (Lib.laidMet.reads h m3)
  obtain ⟨t4, p4, h4⟩ := iface_of_reads gSy (t := 90) (by kernel_rfl) ⟨_, Tryz.underlying90⟩ (Lib.laidMet.reads h m4)
  obtain ⟨m, h5⟩ := cell_of_shapedOpen_int (P := Tryz.prog) (g := 0) (zero := #[.int .i64 0]) (t := 3) hs (of_decide_eq_true (by kernel_rfl)) (by kernel_rfl) rfl (by kernel_rfl) (by kernel_rfl) Tryz.underlying3
  have h1' := h1
  have h2' := h2
  unfold Lib.TabIs at h1' h2'
  exact ⟨⟨var_lt gPow h1', var_lt gSp h2', var_lt gSy h4, var_lt gRa h3, World.block_lt_of_cell? W _ h5⟩, h1, h2, ⟨t4, p4, h4⟩, ⟨t3, p3, h3⟩, ⟨m, h5⟩⟩
section
variable {H : Type} {enc : TypeId × Value → H}
theorem came_one {W : World} {fuel : Nat} {cs : List Value} {x : DataW H × List MemPlace} (h : DataW.trod enc Tryz.prog W 0 (fun _ => true) true fuel 40 cs = some x) : ∃ i, cs = ivV i := by
  obtain ⟨xs, n, rfl, hx, hcl, hxl, hf⟩ := DataW.trod_struct Tryz.underlying40 h
  have hc : cs.length = 8 := hcl.trans (by kernel_rfl)
  have k1 : Tryz.prog.cellsOf 38 = 1 := by kernel_rfl
  have k2 : Tryz.prog.cellsOf 4 = 1 := by kernel_rfl
  have k3 : Tryz.prog.cellsOf 3 = 1 := by kernel_rfl
  match cs, hc with
  | [c0, c1, c2, c3, c4, c5, c6, c7], _ =>
    match xs, hxl with
    | [y0, y1, y2, y3, y4, y5, y6, y7], _ =>
      have h0 := hf 0 _ rfl
      have h1 := hf 1 _ rfl
      have h2 := hf 2 _ rfl
      have h3 := hf 3 _ rfl
      have h4 := hf 4 _ rfl
      have h5 := hf 5 _ rfl
      have h6 := hf 6 _ rfl
      have h7 := hf 7 _ rfl
      simp [k1, k2, k3] at h0 h1 h2 h3 h4 h5 h6 h7
      obtain ⟨n0, e0, _, _⟩ := DataW.trod_int Tryz.underlying38 h0
      obtain ⟨n1, e1, _⟩ := DataW.trod_bool Tryz.underlying4 h1
      obtain ⟨n2, e2, _⟩ := DataW.trod_int Tryz.underlying3 h2
      obtain ⟨n3, e3, _⟩ := DataW.trod_int Tryz.underlying3 h3
      obtain ⟨n4, e4, _⟩ := DataW.trod_bool Tryz.underlying4 h4
      obtain ⟨n5, e5, _⟩ := DataW.trod_int Tryz.underlying3 h5
      obtain ⟨n6, e6, _⟩ := DataW.trod_int Tryz.underlying3 h6
      obtain ⟨n7, e7, _⟩ := DataW.trod_int Tryz.underlying3 h7
      injection e0 with e0
      injection e1 with e1
      injection e2 with e2
      injection e3 with e3
      injection e4 with e4
      injection e5 with e5
      injection e6 with e6
      injection e7 with e7
      exact ⟨⟨n0, n1, n2, n3, n4, n5, n6, n7⟩, by rw [e0, e1, e2, e3, e4, e5, e6, e7]; rfl⟩
/-- Instructions that came in. -/
theorem came_ins {W : World} {fuel : Nat} {v : Value} {x : DataW H × List MemPlace} (h : DataW.trod enc Tryz.prog W 0 (fun _ => true) true fuel 23 [v] = some x) :
    ∃ A c es, v = .slice A (List.length es) c ∧ Ivs W (fun b => b < W.heap.size) A c es := by
  rcases open_slice Tryz.underlying23 h with ⟨hcs, _⟩ | ⟨a, len, cap, m, n, D, Pl, hcs, hb, hl, hm, hmm, hx, hi⟩
  · injection hcs with hcs
    subst hcs
    exact ⟨none, 0, [], rfl, Nat.le_refl _, fun q => absurd rfl q⟩
  · injection hcs with hcs
    subst hcs
    simp at hmm
    subst hmm
    rw [show Tryz.prog.cellsOf 40 = 8 by kernel_rfl] at hi
    have each : ∀ i, i < len → ∃ e : IV, ∀ j, j < 8 → W.cell? ((a.add (i * 8)).add j) = (ivV e)[j]? := by
      intro i hil
      obtain ⟨cs', hc, ht⟩ := hi i (by omega)
      obtain ⟨_, hcl, hat⟩ := World.cells?_some hc
      obtain ⟨e, rfl⟩ := came_one ht
      exact ⟨e, fun j hj => hat j hj⟩
    obtain ⟨f, hf⟩ : ∃ f : Nat → IV, ∀ i, i < len → ∀ j, j < 8 → W.cell? ((a.add (i * 8)).add j) = (ivV (f i))[j]? := by
      refine ⟨fun i => if hi : i < len then Classical.choose (each i hi) else default, fun i hi => ?_⟩
      simp only [dif_pos hi]
      exact Classical.choose_spec (each i hi)
    refine ⟨some a, m, (List.range len).map f, by simp, by simpa using hl, fun hne => ?_⟩
    have hl0 : 0 < len := by
      cases len with
      | zero => simp at hne
      | succ n => omega
    have h0 : W.cell? a = some (.int .u8 (f 0).op) := by
      have := hf 0 hl0 0 (by omega)
      rw [Nat.zero_mul] at this
      exact this
    obtain ⟨b, o, sp⟩ := a
    have hsp : sp = none := by
      unfold World.cell? at h0
      split at h0
      · cases sp with
        | none => rfl
        | some q => simp at h0
      · cases h0
    subst hsp
    refine ⟨b, o, rfl, World.block_lt_of_cell? W _ h0, fun j i hj q v hq => ?_⟩
    simp only [List.getElem?_map] at hj
    have hjl : j < len := by
      by_cases hjl : j < len
      · exact hjl
      · simp [hjl] at hj
    simp [hjl] at hj
    subst hj
    have hq8 : q < 8 := (List.getElem?_eq_some_iff.1 hq).1
    have := hf j hjl q hq8
    rw [hq] at this
    have e1 : ∀ (x y : Nat), (⟨x, y, none⟩ : Addr).add q = ⟨x, y + q, none⟩ := by intro x y; unfold Addr.add; split <;> simp_all
    have e2 : (⟨b, o, none⟩ : Addr).add (j * 8) = ⟨b, o + j * 8, none⟩ := by unfold Addr.add; split <;> simp_all
    rw [e2, e1] at this
    exact this
end
/-- A call of a law, over a world that is shaped and in which the listed variables read so. -/
theorem returnsInHanded_both {a : Assume} {C : Checked} {os : Os} {f : FuncId} {fn : Func} {s : ChangeSpec} {H : Type} {enc : TypeId × Value → H} {conds : List PathCond} {apart fresh handsOn again : Bool} {X : World → Array Value → Prop}
    (hX : ∀ (w w' : World) (args : Array Value), w.heap = w'.heap → X w args → X w' args)
    (own : ownKnob C.prog.godebug = none) (started : os.Started) (noInit : C.prog.inits.idxOf? f = none) (hfn : C.prog.funcs[f]? = some fn)
    (witness : ∃ (w : World) (tape : Tape) (i : Input), w.os = os ∧ (w.forCall tape i).Shaped C.prog ∧ i.vars = [] ∧ Input.okWide C.prog (w.forCall tape i) .any w.heap.size f i ∧
      ((s.pre enc C.prog fn conds apart (w.forCall tape i).memory i.args ∧ X (w.forCall tape i).memory i.args) ∧ sizedMet enc C.prog fn (OpenSpec.ofChange s) apart (w.forCall tape i).memory i.args) ∧ a.holds C.prog (lone (Frame.enter C.prog f i.args .normal) [] (w.forCall tape i)))
    (contract : ∀ (W : World) (base : Nat) (args : Array Value) (ds gs : List (DataW H)) (before : List MemPlace),
      (∀ (j : Nat) t v, fn.params[j]? = some t → args[j]? = some v → Value.okWide C.prog W .any base t v) →
      DataW.Whole enc C.prog fn.params.toList s.vars apart W args.toList ds gs before →
      conds.all (PathCond.test C.prog ⟨fn.params.toList, ds, s.plain.varTypes C.prog, gs⟩) = true →
      (DataW.weightsEach C.prog (fn.params.toList ++ s.plain.varTypes C.prog) (ds ++ gs)).all (· ≤ reachBytes) = true → X W args → W.ShapedOpen C.prog →
      a.holds C.prog (lone (Frame.enter C.prog f args .normal) [] W) →
      Calls C.prog f args W fun e W' => ∃ v, e = .returned v ∧ s.post enc C.prog fn apart fresh handsOn again W args v W') :
    ReturnsInHanded a C os f .any (fun w args => (s.pre enc C.prog fn conds apart w args ∧ X w args) ∧ sizedMet enc C.prog fn (OpenSpec.ofChange s) apart w args) (s.post enc C.prog fn apart fresh handsOn again) := by
  refine returnsInHanded_of_calls own started noInit witness ?_
  intro w tape i _ hsh _ hok hpre hholds
  obtain ⟨_, _, _, fn', hfn', _, _, _, _, hval⟩ := hok
  have e : fn' = fn := Option.some.inj (hfn'.symm.trans hfn)
  subst e
  obtain ⟨⟨⟨ds, gs, before, hw, hc⟩, hx⟩, hz⟩ := hpre
  have hw' := DataW.Whole.of_heap (w' := w.forCall tape i) (by rfl) hw
  refine (contract (w.forCall tape i) w.heap.size i.args ds gs before hval hw' hc (hz.weights hw) (hX _ _ _ (by rfl) hx) hsh hholds).mono fun e W' ⟨v, he, hp⟩ => ?_
  subst he
  exact ChangeSpec.post_blind hp
end Go.Proofs.YtjebjninlejoeaaGreatDoor
