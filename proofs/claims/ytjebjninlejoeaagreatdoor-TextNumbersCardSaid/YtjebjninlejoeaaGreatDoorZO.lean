/- text, the document's walk: Parse's state. text, the document's walk: Parse. -/
import Derived.Test.YtjebjninlejoeaaGreatDoorR10
import Derived.Test.YtjebjninlejoeaaGreatDoorR14
import Derived.Deep.CutBlock
import Derived.StillTailTactics
import Derived.Test.YtjebjninlejoeaaGreatDoorZJ
namespace Go.Proofs.YtjebjninlejoeaaGreatDoor
open Go.RowKit Go.Maps Go.ChangeMaps
set_option linter.unusedVariables false
set_option linter.unusedSimpArgs false
set_option linter.unusedSectionVars false
set_option maxRecDepth 100000

/-- The document's parser at a plain state: its three rows, in blocks of D and above. -/
structure DPs (W : World) (D : Nat) (st : PS) (vo vj vm : Value) : Prop where
  out : W.ownsRow D 40 8 vo st.out.length (outC st.out)
  jumps : W.ownsRow D 146 3 vj st.jumps.length (jmC st.jumps)
  marks : W.ownsRow D 142 2 vm st.marks.length (mkC st.marks)
theorem DPs.below {W W' : World} {D : Nat} {st : PS} {vo vj vm : Value} (h : DPs W D st vo vj vm) (hb : Below W.heap.size W W') : DPs W' D st vo vj vm :=
  ⟨own_keep h.out fun g q => hb.block g (h.out.lt g q).2, own_keep h.jumps fun g q => hb.block g (h.jumps.lt g q).2, own_keep h.marks fun g q => hb.block g (h.marks.lt g q).2⟩
theorem DPs.outed {W W' : World} {D : Nat} {st : PS} {vo vj vm vo' : Value} (h : DPs W D st vo vj vm) (i : IV) (ho : W'.ownsRow D 40 8 vo' (st.out.length + 1) (outC st.out ++ ivV i)) (hg : W.grownBy W' vo.ownBlock) : DPs W' D { st with out := st.out ++ [i] } vo' vj vm := by
  refine ⟨?_, own_keep h.jumps fun g q => hg.block g (h.jumps.lt g q).2 fun e => own_ne_own h.out e.symm h.jumps (by decide) q, own_keep h.marks fun g q => hg.block g (h.marks.lt g q).2 fun e => own_ne_own h.out e.symm h.marks (by decide) q⟩
  rw [show ({ st with out := st.out ++ [i] } : PS).out = st.out ++ [i] from rfl, outC_push, List.length_append]
  exact ho
theorem DPs.jumped {W W' : World} {D : Nat} {st : PS} {vo vj vm vj' : Value} (h : DPs W D st vo vj vm) (j : Jmp) (ho : W'.ownsRow D 146 3 vj' (st.jumps.length + 1) (jmC st.jumps ++ [.int .i64 j.at_, .int .i64 j.line, .string ⟨j.to.toArray⟩])) (hg : W.grownBy W' vj.ownBlock) : DPs W' D { st with jumps := st.jumps ++ [j] } vo vj' vm := by
  refine ⟨own_keep h.out fun g q => hg.block g (h.out.lt g q).2 fun e => own_ne_own h.jumps e.symm h.out (by decide) q, ?_, own_keep h.marks fun g q => hg.block g (h.marks.lt g q).2 fun e => own_ne_own h.jumps e.symm h.marks (by decide) q⟩
  rw [show ({ st with jumps := st.jumps ++ [j] } : PS).jumps = st.jumps ++ [j] from rfl, jmC_push, List.length_append]
  exact ho
theorem DPs.marked {W W' : World} {D : Nat} {st : PS} {vo vj vm vm' : Value} (h : DPs W D st vo vj vm) (p : Nm × Nat) (ho : W'.ownsRow D 142 2 vm' (st.marks.length + 1) (mkC st.marks ++ [nmV p.1, .int .i64 p.2])) (hg : W.grownBy W' vm.ownBlock) : DPs W' D { st with marks := st.marks ++ [p] } vo vj vm' := by
  refine ⟨own_keep h.out fun g q => hg.block g (h.out.lt g q).2 fun e => own_ne_own h.marks e.symm h.out (by decide) q, own_keep h.jumps fun g q => hg.block g (h.jumps.lt g q).2 fun e => own_ne_own h.marks e.symm h.jumps (by decide) q, ?_⟩
  rw [show ({ st with marks := st.marks ++ [p] } : PS).marks = st.marks ++ [p] from rfl, mkC_push, List.length_append]
  exact ho
theorem DPs.turned {W : World} {D g cap : Nat} {st : PS} {vj vm : Value} (h : DPs W D st (.slice (some ⟨g, 0, none⟩) st.out.length cap) vj vm) (k : Nat) (o : Int) : DPs (W.setCell ⟨g, k * 8 + 5, none⟩ (.int .i64 o)) D { st with out := st.out.modify k (offI o) } (.slice (some ⟨g, 0, none⟩) st.out.length cap) vj vm := by
  have hg : (Value.slice (some ⟨g, 0, none⟩) st.out.length cap).ownBlock = some g := rfl
  have e := (h.out.stored (k * 8 + 5) (.int .i64 o)).1
  rw [← outC_modify] at e
  refine ⟨?_, own_keep h.jumps fun b hb => Below.heap_setCell W _ _ b fun q => own_ne_own h.out hg h.jumps (by decide) (by have q : b = g := q; rw [← q]; exact hb), own_keep h.marks fun b hb => Below.heap_setCell W _ _ b fun q => own_ne_own h.out hg h.marks (by decide) (by have q : b = g := q; rw [← q]; exact hb)⟩
  rw [show ({ st with out := st.out.modify k (offI o) } : PS).out = st.out.modify k (offI o) from rfl, List.length_modify]
  exact e
/-- The document's Parse under way, ahead of line k. -/
structure DI (w1 : World) (ls : List Nm) (k : Nat) (st : PS) (vo vj vm : Value) (W : World) : Prop where
  ps : DPs W w1.heap.size st vo vj vm
  low : Below w1.heap.size w1 W
  qi : QI st (k + 1)
  ml : st.marks.length ≤ k
  eq : runP ps0 1 ls = runP st (k + 1) (ls.drop k)
theorem Below.of_agX {N X : Nat} {W W' : World} (h : Ag (fun g => g ≠ X) W W') (hX : N ≤ X) (hN : N ≤ W.heap.size) : Below N W W' := h.below hN fun k hk => by omega
theorem DI.size {w1 : World} {ls : List Nm} {k : Nat} {st : PS} {vo vj vm : Value} {W : World} (h : DI w1 ls k st vo vj vm W) : w1.heap.size ≤ W.heap.size := h.low.size
theorem DI.low' {w1 : World} {ls : List Nm} {k : Nat} {st : PS} {vo vj vm : Value} {W W' : World} (h : DI w1 ls k st vo vj vm W) (hb : Below W.heap.size W W') : Below w1.heap.size w1 W' := h.low.trans (hb.mono h.size)
theorem toks_many {s : Nm} {l : List Nm} (h : toks s = some l) : l.length ≤ s.length := by
  have := toks_lenA s [] l h
  simpa using this
/-- A row of texts of one's own as tokens. -/
theorem Txs.of_own {w : World} {D : Nat} {v : Value} {l : List Nm} (h : w.ownsRow D 9 1 v l.length (l.map nmV)) : ∃ A c, v = .slice A l.length c ∧ Txs w (fun b => D ≤ b ∧ b < w.heap.size) A c l := by
  rcases h.2 with ⟨rfl, h0⟩ | ⟨g, cap, cur, hv, hb, hc, r⟩
  · have : l = [] := List.eq_nil_of_length_eq_zero h0
    subst this
    exact ⟨_, _, rfl, Nat.le_refl _, fun q => absurd rfl q⟩
  · subst hv
    have hcap : l.length ≤ cap := by first | exact r.1 | omega
    refine ⟨_, _, rfl, hcap, fun _ => ⟨g, 0, rfl, h.lt g rfl, fun j t ht => ?_⟩⟩
    have hlt : j < l.length := (List.getElem?_eq_some_iff.1 ht).1
    have := h.cellAt j (by omega)
    rw [List.getElem?_map, ht] at this
    simpa [nmV] using this
/-- A line's answer in plain words. -/
theorem step_inst {s : Nm} {t : List Nm} {st : PS} {n : Nat} (ht : toks s = some t) (h0 : t ≠ []) (hm : markT t = none) :
    (instP t = none → stepP st n s = .error (120, n)) ∧
    (∀ i lb, instP t = some (i, lb) → (rightP i = false → stepP st n s = .error (120, n)) ∧ (rightP i = true → (st.out.length = 4096 → stepP st n s = .error (3, n)) ∧ (st.out.length ≠ 4096 → (lb = [] → stepP st n s = .ok { st with out := st.out ++ [i] }) ∧ (lb ≠ [] → stepP st n s = .ok { st with out := st.out ++ [i], jumps := st.jumps ++ [⟨st.out.length, n, lb⟩] })))) := by
  cases t with
  | nil => exact absurd rfl h0
  | cons s0 t =>
    refine ⟨fun h => ?_, fun i lb h => ⟨fun hr => ?_, fun hr => ⟨fun h2 => ?_, fun h2 => ⟨fun h3 => ?_, fun h3 => ?_⟩⟩⟩⟩ <;> unfold stepP <;> rw [ht] <;> simp only [hm, h]
    · rw [hr]; simp
    · rw [hr]; simp [h2]
    · rw [hr]; simp [h2, h3]
    · rw [hr]; simp [h2, h3]
/-- A step makes one mark at most. -/
theorem step_mlen {st st' : PS} {n : Nat} {s : List UInt8} (e : stepP st n s = .ok st') : st'.marks.length ≤ st.marks.length + 1 := by
  unfold stepP at e
  split at e
  · cases e
  · injection e with e; subst e; omega
  · split at e
    · split at e
      · cases e
      · injection e with e; subst e; simp
    · split at e
      · cases e
      · split at e
        · split at e
          · cases e
          · injection e with e; subst e; simp
        · cases e
theorem DI.next {w1 : World} {ls : List Nm} {k : Nat} {st st' : PS} {vo vj vm vo' vj' vm' : Value} {W W' : World} {l : Nm} (h : DI w1 ls k st vo vj vm W) (hl : ls[k]? = some l) (e : stepP st (k + 1) l = .ok st') (hp : DPs W' w1.heap.size st' vo' vj' vm') (hb : Below w1.heap.size w1 W') : DI w1 ls (k + 1) st' vo' vj' vm' W' := by
  refine ⟨hp, hb, h.qi.step e, by have := step_mlen e; have := h.ml; omega, ?_⟩
  rw [h.eq, run_drop hl, e]
theorem leave_rparse (F : Nat) (v : Value) (e n : Int) (tmps : Array Value) (W : World) (hF : W.cell? ⟨F, 0, none⟩ = some (.int .i64 e) ∧ W.cell? ⟨F, 1, none⟩ = some (.int .i64 n)) (h2 : tmps.getD 2 undef = v) (h3 : tmps.getD 3 undef = .pointer (some ⟨F, 0, none⟩)) : (results Tryz.f29 tmps).run Tryz.prog W = .ok (.tuple #[v, ftV e n]) W := by
  obtain ⟨f0, f1⟩ := hF
  have h2' : tmps[2]?.getD undef = v := by simpa using h2
  have h3' : tmps[3]?.getD undef = .pointer (some ⟨F, 0, none⟩) := by simpa using h3
  simp [results, Tryz.results29, go_sem, h2', h3', f0, f1, ftV]
theorem flt_bk {W : World} {F : Nat} (h : Bk W F 26 [.int .i64 0, .int .i64 0]) (e n : Int) : Bk ((W.setCell ⟨F, 0, none⟩ (.int .i64 e)).setCell ⟨F, 1, none⟩ (.int .i64 n)) F 26 [.int .i64 e, .int .i64 n] :=
  (h.set 0 (.int .i64 e)).set 1 (.int .i64 n)
/-- The document's Parse ends with a fault. -/
theorem rp_err {w W : World} {rr : Except (Int × Nat) (List IV)} {e : Int} {m : Nat} (hr : rr = .error (e, m)) (hb : Below w.heap.size w W) (hF : Bk W w.heap.size 26 [.int .i64 0, .int .i64 0]) :
    ParR w rr (.returned (.tuple #[.slice none 0 0, ftV e (m : Nat)])) ((W.setCell ⟨w.heap.size, 0, none⟩ (.int .i64 e)).setCell ⟨w.heap.size, 1, none⟩ (.int .i64 (m : Nat))) :=
  ParR.err hr ((hb.setCell (Nat.le_refl _) _).setCell (Nat.le_refl _) _)
theorem info_rjmp : ∃ i0 : TypeInfo, Tryz.prog.info? 146 = some i0 ∧ i0.zero = some (.agg #[.int .i64 0, .int .i64 0, .string ⟨#[]⟩]) ∧ i0.size = 3 ∧ i0.bytes = 32 := ⟨_, rfl, rfl, rfl, rfl⟩
theorem info_rmark : ∃ i0 : TypeInfo, Tryz.prog.info? 142 = some i0 ∧ i0.zero = some (.agg #[.string ⟨#[]⟩, .int .i64 0]) ∧ i0.size = 2 ∧ i0.bytes = 24 := ⟨_, rfl, rfl, rfl, rfl⟩
end Go.Proofs.YtjebjninlejoeaaGreatDoor
namespace Go.Proofs.YtjebjninlejoeaaGreatDoor
open Go.RowKit Go.Maps Go.ChangeMaps
set_option linter.unusedVariables false
set_option linter.unusedSimpArgs false
set_option linter.unusedSectionVars false
set_option maxRecDepth 100000

theorem rp_leave {w w1 W : World} {e n : Int} (hF : Bk w1 w.heap.size 26 [.int .i64 0, .int .i64 0]) (hz : w.heap.size < w1.heap.size) (hb : Below w1.heap.size w1 W) (tmps : Array Value) (h2 : tmps.getD 2 undef = .slice none 0 0) (h3 : tmps.getD 3 undef = .pointer (some ⟨w.heap.size, 0, none⟩)) :
    (results Tryz.f29 tmps).run Tryz.prog ((W.setCell ⟨w.heap.size, 0, none⟩ (.int .i64 e)).setCell ⟨w.heap.size, 1, none⟩ (.int .i64 n)) = .ok (.tuple #[.slice none 0 0, ftV e n]) ((W.setCell ⟨w.heap.size, 0, none⟩ (.int .i64 e)).setCell ⟨w.heap.size, 1, none⟩ (.int .i64 n)) := by
  have hk := flt_bk (hF.below hb hz) e n
  exact leave_rparse w.heap.size _ e n tmps _ ⟨hk.cell 0, hk.cell 1⟩ h2 h3
theorem rp_fault {w w1 W : World} {rr : Except (Int × Nat) (List IV)} {e n : Int} {m : Nat} (hF : Bk w1 w.heap.size 26 [.int .i64 0, .int .i64 0]) (hz : w.heap.size < w1.heap.size) (hB : Below w.heap.size w w1) (hb : Below w1.heap.size w1 W) (hr : rr = .error (e, m)) (hn : n = (m : Int)) :
    ParR w rr (.returned (.tuple #[.slice none 0 0, ftV e n])) ((W.setCell ⟨w.heap.size, 0, none⟩ (.int .i64 e)).setCell ⟨w.heap.size, 1, none⟩ (.int .i64 n)) := by
  subst hn
  exact rp_err hr (hB.trans (hb.mono (Nat.le_of_lt hz))) (hF.below hb hz)
theorem two_form {t : List Nm} (h : t.length = 2) : ∃ a b, t = [a, b] := by
  match t, h with
  | [a, b], _ => exact ⟨a, b, rfl⟩
theorem mark_two {a b : Nm} : markT [a, b] = if b = [58] ∧ labelP a = true then some a else none := rfl
theorem mark_len2 {t : List Nm} (h : t.length ≠ 2) : markT t = none := by
  match t, h with
  | [], _ => rfl
  | [a], _ => rfl
  | [a, b], h => exact absurd rfl h
  | a :: b :: c :: r, _ => rfl
theorem own_ne_blk {w : World} {D size n : Nat} {e e' : TypeId} {v : Value} {xs ys : List Value} {g : Nat} (h : w.ownsRow D e size v n xs) (hg : v.ownBlock = some g) (hb : Bk w g e' ys) (he : e ≠ e') : False := by
  obtain ⟨cur, hc⟩ := own_type h hg
  rw [hb] at hc
  injection hc with hc
  injection hc with _ hc
  exact he hc.symm
theorem rjm_at {w : World} {D g c : Nat} {l : List Jmp} {n : Nat} (h : w.ownsRow D 146 3 (.slice (some ⟨g, 0, none⟩) n c) n (jmC l)) (hn : l.length ≤ n) {k : Nat} {j : Jmp} (hk : l[k]? = some j) :
    w.cell? ⟨g, k * 3, none⟩ = some (.int .i64 j.at_) ∧ w.cell? ⟨g, k * 3 + 1, none⟩ = some (.int .i64 j.line) ∧ w.cell? ⟨g, k * 3 + 2, none⟩ = some (.string ⟨j.to.toArray⟩) := by
  have hlt : k < l.length := (List.getElem?_eq_some_iff.1 hk).1
  have f := fun m (hm : m < 3) => (h.cellAt (k * 3 + m) (by omega)).trans (flat_at (f := fun j : Jmp => [Value.int .i64 j.at_, .int .i64 j.line, .string ⟨j.to.toArray⟩]) (c := 3) (fun _ => rfl) l k j m hk hm)
  exact ⟨f 0 (by omega), f 1 (by omega), f 2 (by omega)⟩
/-- Jumps landing, the document's way: those behind place k are left. -/
structure DL (w1 : World) (st : PS) (k : Nat) (out : List IV) (vo vj vm : Value) (W : World) : Prop where
  ps : DPs W w1.heap.size { st with out := out } vo vj vm
  low : Below w1.heap.size w1 W
  eq : landP st.marks st.out st.jumps = landP st.marks out (st.jumps.drop k)
  len : out.length = st.out.length
theorem DL.below {w1 : World} {st : PS} {k : Nat} {out : List IV} {vo vj vm : Value} {W W' : World} (h : DL w1 st k out vo vj vm W) (hb : Below W.heap.size W W') : DL w1 st k out vo vj vm W' :=
  ⟨h.ps.below hb, h.low.trans (hb.mono h.low.size), h.eq, h.len⟩
theorem land_step (marks : List (Nm × Nat)) (out : List IV) (j : Jmp) (js : List Jmp) : landP marks out (j :: js) = match hasM marks j.to with
    | none => .error (121, j.line)
    | some a => if inI ((a : Int) - j.at_ - 1) (-32768) 32767 then landP marks (out.modify j.at_ (offI ((a : Int) - j.at_ - 1))) js else .error (121, j.line) := by
  rw [landP]
  cases hasM marks j.to <;> rfl
set_option maxHeartbeats 8000000 in
theorem rparse_short (s : Nm) (hs : s.length ≤ 262144) (w : World) : Calls Tryz.prog 29 #[.string ⟨s.toArray⟩] w fun x w' => ParR w (parseP s) x w' := by
  have HE := Lib.hid (show (∀ e, runP ps0 1 (linesP s) = .error e → parseP s = .error e) ∧ (∀ st, runP ps0 1 (linesP s) = .ok st → parseP s = landP st.marks st.out st.jumps) from ⟨fun e h => by unfold parseP; rw [if_neg (by omega), h], fun st h => by unfold parseP; rw [if_neg (by omega), h]⟩)
  generalize parseP s = rr at *
  have hx : (((⟨s.toArray⟩ : ByteArray).size : Nat) : Int) = (s.length : Int) := by show ((s.toArray.size : Nat) : Int) = _; simp
  have d1 : decide ((262144 : Int) < (s.length : Int)) = false := decide_eq_false (by omega)
  have q1 : ¬ (262144 : Int) < (s.length : Int) := by omega
  have HF := Lib.hid (Bk.new w 26 [.int .i64 0, .int .i64 0])
  have HB0 := Lib.hid ((Below.refl _ w).alloc (Nat.le_refl _) (.cells #[.int .i64 0, .int .i64 0] 26))
  have hz0 : (w.alloc (.cells #[.int .i64 0, .int .i64 0] 26)).heap.size = w.heap.size + 1 := by simp
  have HZ0 := Lib.hid hz0
  clear hz0
  go_enter Tryz.func29, Tryz.ntmps29
  go_wp2_with fail
  have HF : Hid (Bk (w.alloc (.cells #[.int .i64 0, .int .i64 0] 26)) w.heap.size 26 [.int .i64 0, .int .i64 0]) := HF
  generalize (w.alloc (.cells #[.int .i64 0, .int .i64 0] 26)) = w0 at *
  (with_reducible refine (rlines_any s (by omega) w0).mono ?_)
  rintro _ w1 ⟨v, rfl, hT⟩
  obtain ⟨A, c, rfl, hX⟩ := Txs.of_own hT.own
  have HF1 := Lib.hid (HF.out.below hT.low (by have := HZ0.out; omega))
  have HB1 := Lib.hid (HB0.out.trans (hT.low.mono (by have := HZ0.out; omega)))
  have HZ := Lib.hid (show w.heap.size < w1.heap.size by have := hT.low.size; have := HZ0.out; omega)
  have HTX := Lib.hid hX
  have HSH := Lib.hid (fun l (hl : l ∈ linesP s) => lines_short s [] l hl)
  have hln : (linesP s).length ≤ 262145 := by rw [lines_len]; have := List.count_le_length (a := (10 : UInt8)) (l := s); omega
  clear HF HB0 HZ0 hT hX
  generalize linesP s = ls at *
  go_wp2_with fail
  go_loopw [4, 5, 6, 8] (fun o j m i wr => ∃ (k : Nat) (st : PS) (vo vj vm : Value), o = vo ∧ j = vj ∧ m = vm ∧ k ≤ ls.length ∧ i = .int .i64 k ∧ Hid (DI w1 ls k st vo vj vm wr)) (fun _ _ _ i _ => ls.length - (intOf i).toNat)
  case atStart => exact ⟨0, ps0, _, _, _, rfl, rfl, rfl, Nat.zero_le _, rfl, Lib.hid ⟨⟨World.ownsRow_nil _ _ _ _, World.ownsRow_nil _ _ _ _, World.ownsRow_nil _ _ _ _⟩, Below.refl _ _, qi0 1, Nat.le_refl _, rfl⟩⟩
  case round =>
    obtain ⟨k, st, vo, vj, vm, rfl, rfl, rfl, hk, rfl, HI⟩ := hrel
    by_cases hlt : k < ls.length
    · have d2 : decide ((k : Int) < (ls.length : Int)) = true := decide_eq_true (by omega)
      obtain ⟨l, hl⟩ : ∃ l, ls[k]? = some l := ⟨ls[k], List.getElem?_eq_getElem hlt⟩
      have hll := HSH.out l (List.mem_of_getElem? hl)
      simp only [List.length_nil, Nat.zero_add] at hll
      obtain ⟨g, o, rfl, hg, hc⟩ := HTX.out.2 (by rintro rfl; simp at hlt)
      have c0 := (World.cell?_of_block (HI.out.low.block g hg.2)).trans (hc k l hl)
      have q2 : (0 : Int) ≤ (k : Int) := by omega
      have q3 : (k : Int) < (ls.length : Int) := by omega
      have hTK := rtokens_any l (by omega) wr
      have HERR := Lib.hid (fun (e : Int × Nat) (h : stepP st (k + 1) l = .error e) => HE.out.1 e (by rw [HI.out.eq, run_drop hl, h]))
      have HNX := Lib.hid (fun (st' : PS) (vo' vj' vm' : Value) (W' : World) (h : stepP st (k + 1) l = .ok st') => DI.next (W' := W') (vo' := vo') (vj' := vj') (vm' := vm') HI.out hl h)
      have HLL := Lib.hid hll
      clear hg hc hl hll HTX
      cases ht : toks l with
      | none =>
        rw [ht] at hTK
        have HRR := Lib.hid (HERR.out (120, k + 1) (step_bad ht))
        clear ht HERR HNX
        go_wp2_with fail
        (with_reducible refine hTK.mono ?_)
        rintro _ w5 ⟨b5, rfl⟩
        have HW := Lib.hid (HI.out.low' (b5.alloc b5.size (.cells #[.slice none 0 0, .int .i64 0, .bool false] 139)))
        clear hTK b5 c0
        go_upto_region 12 with fail
        generalize (w5.alloc (.cells #[.slice none 0 0, .int .i64 0, .bool false] 139)) = wa at *
        have hfk := HF1.out.below HW.out HZ.out
        have f0 := hfk.cell 0
        have f1 := hfk.cell 1
        have z0 := hfk.frozen 0
        have z1 := hfk.frozen 1
        simp only [List.getElem?_cons_zero, List.getElem?_cons_succ] at f0 f1
        clear hfk
        go_wp2_with fail
        exact bodyPost_ret (rp_leave HF1.out HZ.out HW.out _ rfl rfl) rfl (rp_fault HF1.out HZ.out HB1.out HW.out HRR.out (by first | rfl | omega))
      | some t =>
        rw [ht] at hTK
        have hTL := toks_many ht
        have HSHT := Lib.hid (toks_short ht)
        have HTT := Lib.hid ht
        go_wp2_with fail
        (with_reducible refine hTK.mono ?_)
        rintro _ w5 ⟨b5, vt, rfl, ho⟩
        have HB5 := Lib.hid b5
        obtain ⟨A5, c5, rfl, hx5⟩ := Txs.of_own ho
        have HO5 := Lib.hid ho
        have HX5 := Lib.hid hx5
        have HTL := Lib.hid hTL
        clear hTK b5 c0 ho hx5 ht hTL
        by_cases h0 : t.length = 0
        · obtain rfl : t = [] := List.eq_nil_of_length_eq_zero h0
          have HS0 := Lib.hid (step_none (st := st) (n := k + 1) HTT.out)
          clear h0
          go_wp2_with fail
          go_roundw
          case rel => exact ⟨k + 1, st, _, _, _, rfl, rfl, rfl, by omega, by go_num, Lib.hid (HNX.out st _ _ _ _ HS0.out (HI.out.ps.below (HB5.out.alloc HB5.out.size _)) (HI.out.low' (HB5.out.alloc HB5.out.size _)))⟩
          case measure => simp [intOf]; omega
        · have z0 : ((t.length : Int) == 0) = false := by rw [beq_eq_false_iff_ne]; omega
          go_upto_region 12 with fail
          have HWA := Lib.hid (HB5.out.alloc HB5.out.size (.cells #[.slice A5 t.length c5, .int .i64 0, .bool false] 139))
          have HOA := Lib.hid (own_keep HO5.out fun g q => (Below.heap_alloc w5 (.cells #[.slice A5 t.length c5, .int .i64 0, .bool false] 139) g (HO5.out.lt g q).2))
          have HRL := Lib.hid (show RL (w5.alloc (.cells #[.slice A5 t.length c5, .int .i64 0, .bool false] 139)) w5.heap.size (fun b => wr.heap.size ≤ b ∧ b < w5.heap.size) t 0 false from ⟨⟨A5, c5, Bk.new w5 139 [.slice A5 t.length c5, .int .i64 0, .bool false], HX5.out.keep (fun b hb => Below.heap_alloc w5 _ b hb.2) (fun _ hb => hb)⟩, fun q => by have := q.2; omega, fun x hx => by have := HSHT.out x hx; have := HLL.out; omega, by have := HTL.out; have := HLL.out; omega⟩)
          have HZA := Lib.hid (show w5.heap.size < (w5.alloc (.cells #[.slice A5 t.length c5, .int .i64 0, .bool false] 139)).heap.size ∧ wr.heap.size ≤ w5.heap.size by simp; exact HB5.out.size)
          clear HB5 HO5 HX5
          generalize (w5.alloc (.cells #[.slice A5 t.length c5, .int .i64 0, .bool false] 139)) = wa at *
          generalize w5.heap.size = X at *
          obtain ⟨gt, ct, e⟩ := own_form HOA.out (by omega)
          injection e with e1 e2 e3
          subst e1 e3
          go_upto_region 15 with fail
          go_cut [62] (fun b wx => b = .bool (markT t).isSome ∧ wx = wa)
          case first =>
            by_cases h2 : t.length = 2
            · obtain ⟨a, b, rfl⟩ := two_form h2
              clear z0 h2 h0
              have m0 := HOA.out.cellAt 0 (by show 0 < 2 * 1; omega)
              have m1 := HOA.out.cellAt 1 (by show 1 < 2 * 1; omega)
              simp only [List.map_cons, List.map_nil, List.getElem?_cons_zero, List.getElem?_cons_succ, nmV] at m0 m1
              by_cases hb : b = [58]
              · subst hb
                have hla := rlabel_any a (by have := HSHT.out a (by simp); have := HLL.out; omega) wa
                cases hL : labelP a with
                | true =>
                  have HMT := Lib.hid (show markT [a, [58]] = some a by rw [mark_two, if_pos ⟨rfl, hL⟩])
                  rw [hL] at hla
                  clear hL
                  go_wp2_with fail
                  (with_reducible refine hla.mono ?_)
                  rintro _ w6 ⟨rfl, rfl⟩
                  go_wp2_with fail
                  go_meet
                  exact ⟨by rw [HMT.out]; rfl, rfl⟩
                | false =>
                  have HMT := Lib.hid (show markT [a, [58]] = none by rw [mark_two, if_neg (by rw [hL]; simp)])
                  rw [hL] at hla
                  clear hL
                  go_wp2_with fail
                  (with_reducible refine hla.mono ?_)
                  rintro _ w6 ⟨rfl, rfl⟩
                  go_wp2_with fail
                  go_meet
                  exact ⟨by rw [HMT.out]; rfl, rfl⟩
              · have qb : (b == [58]) = false := by simpa using hb
                have HMT := Lib.hid (show markT [a, b] = none by rw [mark_two, if_neg (by simp [hb])])
                clear hb
                go_wp2_with fail
                go_meet
                exact ⟨by rw [HMT.out]; rfl, rfl⟩
            · have z2 : ((t.length : Int) == 2) = false := by rw [beq_eq_false_iff_ne]; omega
              have HMT := Lib.hid (mark_len2 h2)
              clear h2
              go_wp2_with fail
              go_meet
              exact ⟨by rw [HMT.out]; rfl, rfl⟩
          case rest =>
            obtain ⟨rfl, rfl⟩ := hcut
            cases hm : markT t with
            | some a =>
              obtain ⟨rfl, hL⟩ := mark_form hm
              have HST := Lib.hid (step_mark (st := st) (n := k + 1) HTT.out hm)
              have hml : st.marks.length ≤ 1000000 := by have := HI.out.ml; omega
              have hps := HI.out.ps.below HWA.out
              have hfd := rfind_any a wc hps.marks hml
              have m0 := HOA.out.cellAt 0 (by show 0 < 2 * 1; omega)
              simp only [List.map_cons, List.map_nil, List.getElem?_cons_zero, List.getElem?_cons_succ, nmV] at m0
              clear hL hm hps
              cases hM : hasM st.marks a with
              | some q =>
                rw [hM] at hfd
                have HRR := Lib.hid (HERR.out (121, k + 1) (HST.out.2 q hM))
                clear hM HST
                simp only [fndV] at hfd
                have dq : decide ((0 : Int) ≤ (q : Int)) = true := decide_eq_true (by omega)
                go_wp2_with fail
                (with_reducible refine hfd.mono ?_)
                rintro _ w6 ⟨rfl, b6⟩
                have HW := Lib.hid (HI.out.low' (HWA.out.trans (b6.mono HWA.out.size)))
                clear hfd m0 b6
                have hfk := HF1.out.below HW.out HZ.out
                have f0 := hfk.cell 0
                have f1 := hfk.cell 1
                have z0 := hfk.frozen 0
                have z1 := hfk.frozen 1
                simp only [List.getElem?_cons_zero, List.getElem?_cons_succ] at f0 f1
                clear hfk
                go_wp2_with fail
                exact bodyPost_ret (rp_leave HF1.out HZ.out HW.out _ rfl rfl) rfl (rp_fault HF1.out HZ.out HB1.out HW.out HRR.out (by first | rfl | omega))
              | none =>
                rw [hM] at hfd
                have HS1 := Lib.hid (HST.out.1 hM)
                clear hM HST
                simp only [fndV] at hfd
                go_wp2_with fail
                (with_reducible refine hfd.mono ?_)
                rintro _ w6 ⟨rfl, b6⟩
                have HW6 := Lib.hid (HWA.out.trans (b6.mono HWA.out.size))
                have HP6 := Lib.hid (HI.out.ps.below HW6.out)
                have m0 := (World.cell?_of_block (b6.block gt (HOA.out.lt gt rfl).2)).trans m0
                obtain ⟨Ao, co, rfl⟩ := own_slice HI.out.ps.out
                have hown := (HP6.out.below ((Below.refl _ w6).alloc (Nat.le_refl _) (.cells #[.string ⟨a.toArray⟩, .int .i64 st.out.length] 142))).marks
                have hny := news_new w6 [.string ⟨a.toArray⟩, .int .i64 st.out.length] 142
                have hlow := HI.out.low' (HW6.out.alloc HW6.out.size (.cells #[.string ⟨a.toArray⟩, .int .i64 st.out.length] 142))
                obtain ⟨i0, hi0, hz0, hz1, hz2⟩ := info_rmark
                clear hfd b6
                go_wp2_with (at_builtin; go_loud (refine wpList_append_ownA (by rfl) (.tmp 72) (.tmp 79) 133 (by rfl) w1.heap.size 142 i0 _ 2 24 Tryz.underlying133 hi0 hz0 hz1 hz2 rfl (by decide) _ st.marks.length (mkC st.marks) (by rfl) hown (some ⟨w6.heap.size, 0, none⟩) 1 1 [.string ⟨a.toArray⟩, .int .i64 st.out.length] (by rfl) rfl (fun e => by cases e) (fun ad e => by injection e with e; subst e; exact hny) (by intro x hx; simp at hx; rcases hx with rfl | rfl <;> rfl) (by unfold maxLen; omega) (by omega) hlow.size ?_); intro v7 w7 hr7 hg7)
                have hlow7 := hlow.grown hg7 hlow.size (fun g e => (hown.lt g e).1)
                have HP7 := Lib.hid ((HP6.out.below ((Below.refl _ w6).alloc (Nat.le_refl _) (.cells #[.string ⟨a.toArray⟩, .int .i64 st.out.length] 142))).marked (a, st.out.length) hr7 hg7)
                have HN := Lib.hid (HNX.out _ _ _ _ w7 HS1.out HP7.out hlow7)
                clear hown hny hlow hr7 hg7 hlow7 HI HP6 HP7 m0
                go_wp2_with fail
                go_roundw
                case rel => exact ⟨k + 1, _, _, _, _, rfl, rfl, rfl, by omega, by go_num, HN⟩
                case measure => simp [intOf]; omega
            | none =>
              have HST := Lib.hid (step_inst (st := st) (n := k + 1) HTT.out (by rintro rfl; exact h0 rfl) hm)
              obtain ⟨s0, tt, htt⟩ : ∃ s0 tt, t = s0 :: tt := by
                cases t with
                | nil => exact absurd rfl h0
                | cons a b => exact ⟨a, b, rfl⟩
              have hin := rinst_any HRL.out (fun g hg => by have := HZA.out; omega) htt
              clear htt hm
              go_wp2_with fail
              (with_reducible refine hin.mono ?_)
              rintro x w6 ⟨⟨⟨i1, i2, i3, i4, i5, i6, i7, i8⟩, lb⟩, a', b', hx, hrl, hag, hok, hno⟩
              have hx : x = .returned (.tuple #[.agg #[.int .u8 i1, .bool i2, .int .i64 i3, .int .i64 i4, .bool i5, .int .i64 i6, .int .i64 i7, .int .i64 i8], .string ⟨lb.toArray⟩]) := hx
              subst hx
              have HW6 := Lib.hid (HWA.out.trans (Below.of_agX hag HZA.out.2 HWA.out.size))
              have HR6 := Lib.hid hrl
              have HOK := Lib.hid hok
              have HNO := Lib.hid hno
              clear hin hrl hag hok hno HRL HOA
              go_upto_region 20 with fail
              have hbl := (Below.refl w6.heap.size w6).alloc (Nat.le_refl _) (.cells #[.int .u8 i1, .bool i2, .int .i64 i3, .int .i64 i4, .bool i5, .int .i64 i6, .int .i64 i7, .int .i64 i8] 40)
              have HBI := Lib.hid (Bk.new w6 40 [.int .u8 i1, .bool i2, .int .i64 i3, .int .i64 i4, .bool i5, .int .i64 i6, .int .i64 i7, .int .i64 i8])
              have HWN := Lib.hid (HW6.out.trans (hbl.mono HW6.out.size))
              have HRN := Lib.hid (HR6.out.below hbl)
              clear hbl HR6 HW6
              generalize w6.heap.size = I at *
              have HBI : Hid (Bk (w6.alloc (.cells #[.int .u8 i1, .bool i2, .int .i64 i3, .int .i64 i4, .bool i5, .int .i64 i6, .int .i64 i7, .int .i64 i8] 40)) I 40 [.int .u8 i1, .bool i2, .int .i64 i3, .int .i64 i4, .bool i5, .int .i64 i6, .int .i64 i7, .int .i64 i8]) := HBI
              generalize (w6.alloc (.cells #[.int .u8 i1, .bool i2, .int .i64 i3, .int .i64 i4, .bool i5, .int .i64 i6, .int .i64 i7, .int .i64 i8] 40)) = wn at *
              obtain ⟨c2, -, -, -⟩ := HRN.out.mark b'
              cases b' with
              | true =>
                have HRR := Lib.hid (HERR.out (120, k + 1) (HST.out.1 (HNO.out rfl)))
                have HW := Lib.hid (HI.out.low' HWN.out)
                clear HST
                have hfk := HF1.out.below HW.out HZ.out
                have f0 := hfk.cell 0
                have f1 := hfk.cell 1
                have z0 := hfk.frozen 0
                have z1 := hfk.frozen 1
                simp only [List.getElem?_cons_zero, List.getElem?_cons_succ] at f0 f1
                clear hfk
                go_wp2_with fail
                exact bodyPost_ret (rp_leave HF1.out HZ.out HW.out _ rfl rfl) rfl (rp_fault HF1.out HZ.out HB1.out HW.out HRR.out (by first | rfl | omega))
              | false =>
                have HS2 := Lib.hid (HST.out.2 _ lb (HOK.out rfl))
                have hrt := fun W => rright_any ⟨i1, i2, i3, i4, i5, i6, i7, i8⟩ W
                have e0 := HBI.out.cell 0
                have e1 := HBI.out.cell 1
                have e2 := HBI.out.cell 2
                have e3 := HBI.out.cell 3
                have e4 := HBI.out.cell 4
                have e5 := HBI.out.cell 5
                have e6 := HBI.out.cell 6
                have e7 := HBI.out.cell 7
                simp only [List.getElem?_cons_zero, List.getElem?_cons_succ] at e0 e1 e2 e3 e4 e5 e6 e7
                clear HST HOK HNO HRN
                cases hr : rightP ⟨i1, i2, i3, i4, i5, i6, i7, i8⟩ with
                | false =>
                  have HRR := Lib.hid (HERR.out (120, k + 1) (HS2.out.1 hr))
                  rw [hr] at hrt
                  simp only [ivV] at hrt
                  clear hr HS2
                  go_wp2_with fail
                  (with_reducible refine (hrt _).mono ?_)
                  rintro _ w8 ⟨rfl, b8⟩
                  have HW := Lib.hid (HI.out.low' (HWN.out.trans (b8.mono HWN.out.size)))
                  clear hrt e0 e1 e2 e3 e4 e5 e6 e7 c2 b8 HWN HBI
                  have hfk := HF1.out.below HW.out HZ.out
                  have f0 := hfk.cell 0
                  have f1 := hfk.cell 1
                  have z0 := hfk.frozen 0
                  have z1 := hfk.frozen 1
                  simp only [List.getElem?_cons_zero, List.getElem?_cons_succ] at f0 f1
                  clear hfk
                  go_wp2_with fail
                  exact bodyPost_ret (rp_leave HF1.out HZ.out HW.out _ rfl rfl) rfl (rp_fault HF1.out HZ.out HB1.out HW.out HRR.out (by first | rfl | omega))
                | true =>
                  have HS3 := Lib.hid (HS2.out.2 hr)
                  rw [hr] at hrt
                  simp only [ivV] at hrt
                  clear hr HS2
                  go_wp2_with fail
                  (with_reducible refine (hrt _).mono ?_)
                  rintro _ w8 ⟨rfl, b8⟩
                  have HW8 := Lib.hid (HWN.out.trans (b8.mono HWN.out.size))
                  have HBI8 := Lib.hid (HBI.out.below b8 HBI.out.lt)
                  clear hrt e0 e1 e2 e3 e4 e5 e6 e7 c2 b8 HWN HBI
                  obtain ⟨Ao, co, rfl⟩ := own_slice HI.out.ps.out
                  by_cases h4 : st.out.length = 4096
                  · have HRR := Lib.hid (HERR.out (3, k + 1) (HS3.out.1 h4))
                    have HW := Lib.hid (HI.out.low' HW8.out)
                    have z4 : ((st.out.length : Int) == 4096) = true := by rw [beq_iff_eq]; omega
                    have q4 : (st.out.length : Int) = 4096 := by omega
                    clear h4
                    have hfk := HF1.out.below HW.out HZ.out
                    have f0 := hfk.cell 0
                    have f1 := hfk.cell 1
                    have z0 := hfk.frozen 0
                    have z1 := hfk.frozen 1
                    simp only [List.getElem?_cons_zero, List.getElem?_cons_succ] at f0 f1
                    clear hfk
                    go_wp2_with fail
                    exact bodyPost_ret (rp_leave HF1.out HZ.out HW.out _ rfl rfl) rfl (rp_fault HF1.out HZ.out HB1.out HW.out HRR.out (by first | rfl | omega))
                  · have HS4 := Lib.hid (HS3.out.2 h4)
                    have z4 : ((st.out.length : Int) == 4096) = false := by rw [beq_eq_false_iff_ne]; omega
                    clear h4 HS3
                    have HP8 := Lib.hid (HI.out.ps.below HW8.out)
                    have HL8 := Lib.hid (HI.out.low' HW8.out)
                    have hpl : st.out.length ≤ 4096 := HI.out.qi.pi.len
                    have hjl : st.jumps.length ≤ 4096 := by have := HI.out.qi.jl; omega
                    obtain ⟨Aj, cj, rfl⟩ := own_slice HI.out.ps.jumps
                    by_cases hlb : lb = []
                    · subst hlb
                      have HS5 := Lib.hid (HS4.out.1 rfl)
                      clear HS4
                      go_upto_region 26 with fail
                      obtain ⟨i9, hi9, hz9, hy9, hx9⟩ := info_ins
                      have hown := (HP8.out.below ((Below.refl _ w8).alloc (Nat.le_refl _) (.cells #[.int .u8 i1, .bool i2, .int .i64 i3, .int .i64 i4, .bool i5, .int .i64 i6, .int .i64 i7, .int .i64 i8] 40))).out
                      have hny := news_new w8 [.int .u8 i1, .bool i2, .int .i64 i3, .int .i64 i4, .bool i5, .int .i64 i6, .int .i64 i7, .int .i64 i8] 40
                      have hlow := HL8.out.alloc HL8.out.size (.cells #[.int .u8 i1, .bool i2, .int .i64 i3, .int .i64 i4, .bool i5, .int .i64 i6, .int .i64 i7, .int .i64 i8] 40)
                      have e0 := HBI8.out.cell 0
                      have e1 := HBI8.out.cell 1
                      have e2 := HBI8.out.cell 2
                      have e3 := HBI8.out.cell 3
                      have e4 := HBI8.out.cell 4
                      have e5 := HBI8.out.cell 5
                      have e6 := HBI8.out.cell 6
                      have e7 := HBI8.out.cell 7
                      simp only [List.getElem?_cons_zero, List.getElem?_cons_succ] at e0 e1 e2 e3 e4 e5 e6 e7
                      go_wp2_with (at_builtin; go_loud (refine wpList_append_ownA (by rfl) (.tmp 115) (.tmp 117) 23 (by rfl) w1.heap.size 40 i9 _ 8 56 Tryz.underlying23 hi9 hz9 hy9 hx9 rfl (by decide) _ st.out.length (outC st.out) (by rfl) hown (some ⟨w8.heap.size, 0, none⟩) 1 1 [.int .u8 i1, .bool i2, .int .i64 i3, .int .i64 i4, .bool i5, .int .i64 i6, .int .i64 i7, .int .i64 i8] (by rfl) rfl (fun e => by cases e) (fun ad e => by injection e with e; subst e; exact hny) (by intro x hx; simp at hx; rcases hx with rfl | rfl | rfl | rfl | rfl | rfl | rfl | rfl <;> rfl) (by unfold maxLen; omega) (by omega) hlow.size ?_); intro v9 w9 hr9 hg9)
                      have hlow9 := hlow.grown hg9 hlow.size (fun g e => (hown.lt g e).1)
                      have HP9 := Lib.hid ((HP8.out.below ((Below.refl _ w8).alloc (Nat.le_refl _) (.cells #[.int .u8 i1, .bool i2, .int .i64 i3, .int .i64 i4, .bool i5, .int .i64 i6, .int .i64 i7, .int .i64 i8] 40))).outed ⟨i1, i2, i3, i4, i5, i6, i7, i8⟩ hr9 hg9)
                      have HN := Lib.hid (HNX.out _ _ _ _ w9 HS5.out HP9.out hlow9)
                      clear hown hny hlow hr9 hg9 hlow9 HI HP8 HBI8 HP9 e0 e1 e2 e3 e4 e5 e6 e7
                      go_wp2_with fail
                      go_roundw
                      case rel => exact ⟨k + 1, _, _, _, _, rfl, rfl, rfl, by omega, by go_num, HN⟩
                      case measure => simp [intOf]; omega
                    · have HS5 := Lib.hid (HS4.out.2 hlb)
                      have hq : (lb == []) = false := by simpa using hlb
                      clear HS4 hlb
                      go_upto_region 25 with fail
                      obtain ⟨i0, hi0, hz0, hz1, hz2⟩ := info_rjmp
                      have hown := (HP8.out.below ((Below.refl _ w8).alloc (Nat.le_refl _) (.cells #[.int .i64 st.out.length, .int .i64 ((k : Int) + 1), .string ⟨lb.toArray⟩] 146))).jumps
                      have hny := news_new w8 [.int .i64 st.out.length, .int .i64 ((k : Int) + 1), .string ⟨lb.toArray⟩] 146
                      have hlow := HL8.out.alloc HL8.out.size (.cells #[.int .i64 st.out.length, .int .i64 ((k : Int) + 1), .string ⟨lb.toArray⟩] 146)
                      go_upto_region 26 with (at_builtin; go_loud (refine wpList_append_ownA (by rfl) (.tmp 106) (.tmp 113) 132 (by rfl) w1.heap.size 146 i0 _ 3 32 Tryz.underlying132 hi0 hz0 hz1 hz2 rfl (by decide) _ st.jumps.length (jmC st.jumps) (by rfl) hown (some ⟨w8.heap.size, 0, none⟩) 1 1 [.int .i64 st.out.length, .int .i64 ((k : Int) + 1), .string ⟨lb.toArray⟩] (by rfl) rfl (fun e => by cases e) (fun ad e => by injection e with e; subst e; exact hny) (by intro x hx; simp at hx; rcases hx with rfl | rfl | rfl <;> rfl) (by unfold maxLen; omega) (by omega) hlow.size ?_); intro v7 w7 hr7 hg7)
                      have hlow7 := hlow.grown hg7 hlow.size (fun g e => (hown.lt g e).1)
                      rw [show ((k : Int) + 1) = ((k + 1 : Nat) : Int) from rfl] at hr7
                      have HP7 := Lib.hid ((HP8.out.below ((Below.refl _ w8).alloc (Nat.le_refl _) (.cells #[.int .i64 st.out.length, .int .i64 ((k : Int) + 1), .string ⟨lb.toArray⟩] 146))).jumped ⟨st.out.length, k + 1, lb⟩ hr7 hg7)
                      have HL7 := Lib.hid hlow7
                      have HBI7 := Lib.hid (show Bk w7 I 40 [.int .u8 i1, .bool i2, .int .i64 i3, .int .i64 i4, .bool i5, .int .i64 i6, .int .i64 i7, .int .i64 i8] from (hg7.block I (by have := HBI8.out.lt; simp; omega) (fun e => own_ne_blk HP8.out.jumps e.symm HBI8.out (by decide))).trans (HBI8.out.below ((Below.refl _ w8).alloc (Nat.le_refl _) (.cells #[.int .i64 st.out.length, .int .i64 ((k : Int) + 1), .string ⟨lb.toArray⟩] 146)) HBI8.out.lt))
                      clear hown hny hlow hr7 hg7 hlow7 HP8 HL8 HBI8
                      obtain ⟨i9, hi9, hz9, hy9, hx9⟩ := info_ins
                      have hown := (HP7.out.below ((Below.refl _ w7).alloc (Nat.le_refl _) (.cells #[.int .u8 i1, .bool i2, .int .i64 i3, .int .i64 i4, .bool i5, .int .i64 i6, .int .i64 i7, .int .i64 i8] 40))).out
                      have hny := news_new w7 [.int .u8 i1, .bool i2, .int .i64 i3, .int .i64 i4, .bool i5, .int .i64 i6, .int .i64 i7, .int .i64 i8] 40
                      have hlow := HL7.out.alloc HL7.out.size (.cells #[.int .u8 i1, .bool i2, .int .i64 i3, .int .i64 i4, .bool i5, .int .i64 i6, .int .i64 i7, .int .i64 i8] 40)
                      have e0 := HBI7.out.cell 0
                      have e1 := HBI7.out.cell 1
                      have e2 := HBI7.out.cell 2
                      have e3 := HBI7.out.cell 3
                      have e4 := HBI7.out.cell 4
                      have e5 := HBI7.out.cell 5
                      have e6 := HBI7.out.cell 6
                      have e7 := HBI7.out.cell 7
                      simp only [List.getElem?_cons_zero, List.getElem?_cons_succ] at e0 e1 e2 e3 e4 e5 e6 e7
                      go_wp2_with (at_builtin; go_loud (refine wpList_append_ownA (by rfl) (.tmp 115) (.tmp 117) 23 (by rfl) w1.heap.size 40 i9 _ 8 56 Tryz.underlying23 hi9 hz9 hy9 hx9 rfl (by decide) _ st.out.length (outC st.out) (by rfl) hown (some ⟨w7.heap.size, 0, none⟩) 1 1 [.int .u8 i1, .bool i2, .int .i64 i3, .int .i64 i4, .bool i5, .int .i64 i6, .int .i64 i7, .int .i64 i8] (by rfl) rfl (fun e => by cases e) (fun ad e => by injection e with e; subst e; exact hny) (by intro x hx; simp at hx; rcases hx with rfl | rfl | rfl | rfl | rfl | rfl | rfl | rfl <;> rfl) (by unfold maxLen; omega) (by omega) hlow.size ?_); intro v9 w9 hr9 hg9)
                      have hlow9 := hlow.grown hg9 hlow.size (fun g e => (hown.lt g e).1)
                      have HP9 := Lib.hid ((HP7.out.below ((Below.refl _ w7).alloc (Nat.le_refl _) (.cells #[.int .u8 i1, .bool i2, .int .i64 i3, .int .i64 i4, .bool i5, .int .i64 i6, .int .i64 i7, .int .i64 i8] 40))).outed ⟨i1, i2, i3, i4, i5, i6, i7, i8⟩ hr9 hg9)
                      have HN := Lib.hid (HNX.out _ _ _ _ w9 HS5.out HP9.out hlow9)
                      clear hown hny hlow hr9 hg9 hlow9 HI HP7 HBI7 HP9 e0 e1 e2 e3 e4 e5 e6 e7
                      go_wp2_with fail
                      go_roundw
                      case rel => exact ⟨k + 1, _, _, _, _, rfl, rfl, rfl, by omega, by go_num, HN⟩
                      case measure => simp [intOf]; omega
    · have d2 : decide ((k : Int) < (ls.length : Int)) = false := decide_eq_false (by omega)
      obtain rfl : k = ls.length := by omega
      have HRUN := Lib.hid (show rr = landP st.marks st.out st.jumps from HE.out.2 st (by rw [HI.out.eq, List.drop_length]; rfl))
      obtain ⟨Ao, co, rfl⟩ := own_slice HI.out.ps.out
      obtain ⟨Aj, cj, rfl⟩ := own_slice HI.out.ps.jumps
      obtain ⟨Am, cm, rfl⟩ := own_slice HI.out.ps.marks
      have HQ := Lib.hid HI.out.qi
      have HML := Lib.hid HI.out.ml
      have HD0 := Lib.hid (show DL w1 st 0 st.out (.slice Ao st.out.length co) (.slice Aj st.jumps.length cj) (.slice Am st.marks.length cm) wr from ⟨HI.out.ps, HI.out.low, rfl, rfl⟩)
      clear HI HE HTX HSH
      go_wp2_with fail
      go_loopw [14] (fun i wx => ∃ (k : Nat) (out : List IV), k ≤ st.jumps.length ∧ i = .int .i64 k ∧ Hid (DL w1 st k out (.slice Ao st.out.length co) (.slice Aj st.jumps.length cj) (.slice Am st.marks.length cm) wx)) (fun i _ => st.jumps.length - (intOf i).toNat)
      case atStart => exact ⟨0, st.out, Nat.zero_le _, rfl, HD0⟩
      case round =>
        clear HD0
        obtain ⟨k, out, hk, rfl, HL⟩ := hrel
        by_cases hlt : k < st.jumps.length
        · have d3 : decide ((k : Int) < (st.jumps.length : Int)) = true := decide_eq_true (by omega)
          obtain ⟨j, hj⟩ : ∃ j, st.jumps[k]? = some j := ⟨st.jumps[k], List.getElem?_eq_getElem hlt⟩
          have hdr : st.jumps.drop k = j :: st.jumps.drop (k + 1) := by
            rw [List.drop_eq_getElem_cons hlt]
            rw [List.getElem?_eq_getElem hlt] at hj
            injection hj with hj
            rw [hj]
          have HEQ := Lib.hid (show rr = _ from HRUN.out.trans (HL.out.eq.trans (by rw [hdr, land_step])))
          have hjm : j ∈ st.jumps := List.mem_of_getElem? hj
          obtain ⟨i, hi, -⟩ := HQ.out.pi.jmp j hjm
          have hlo : j.at_ < st.out.length := (List.getElem?_eq_some_iff.1 hi).1
          have hpl : st.out.length ≤ 4096 := HQ.out.pi.len
          have hjn : st.jumps.length ≤ 4096 := by have h9 := HQ.out.jl; omega
          have q0 : (k : Int) < 4096 := by omega
          have hjl : j.line ≤ 1000000 := by have h9 : j.line < ls.length + 1 := HQ.out.line j hjm; omega
          obtain ⟨gj, cj', ej⟩ := own_form HL.out.ps.jumps (by show 0 < st.jumps.length; omega)
          injection ej with ej1 ej2 ej3
          subst ej1 ej3
          obtain ⟨go, co', eo⟩ := own_form HL.out.ps.out (by show 0 < out.length; have := HL.out.len; omega)
          injection eo with eo1 eo2 eo3
          subst eo1 eo3
          clear eo2
          obtain ⟨j1, j2, j3⟩ := rjm_at HL.out.ps.jumps (Nat.le_refl _) hj
          have hfd := rfind_any j.to wr HL.out.ps.marks (show st.marks.length ≤ 1000000 from by have h9 : st.marks.length ≤ ls.length := HML.out; omega)
          have q2 : (0 : Int) ≤ (k : Int) := by omega
          have q3 : (k : Int) < (st.jumps.length : Int) := by omega
          have q4 : (0 : Int) ≤ (j.at_ : Int) := by omega
          have q5 : (j.at_ : Int) < (st.out.length : Int) := by omega
          have q6 : (j.at_ : Int) < 4096 := by omega
          have HDR := Lib.hid hdr
          clear hdr hi hjm hj
          cases hm : hasM st.marks j.to with
          | none =>
            rw [hm] at hfd HEQ
            simp only [fndV] at hfd
            have HRR : Hid (rr = .error (121, j.line)) := HEQ
            clear hm
            go_wp2_with fail
            (with_reducible refine hfd.mono ?_)
            rintro _ w5 ⟨rfl, b5⟩
            have hL5 := HL.out.below b5
            obtain ⟨j1, j2, j3⟩ := (⟨(World.cell?_of_block (b5.block gj (HL.out.ps.jumps.lt gj rfl).2)).trans j1, (World.cell?_of_block (b5.block gj (HL.out.ps.jumps.lt gj rfl).2)).trans j2, trivial⟩ : _ ∧ _ ∧ True)
            have HW := Lib.hid hL5.low
            clear hfd b5 hL5
            have hfk := HF1.out.below HW.out HZ.out
            have f0 := hfk.cell 0
            have f1 := hfk.cell 1
            have z0 := hfk.frozen 0
            have z1 := hfk.frozen 1
            simp only [List.getElem?_cons_zero, List.getElem?_cons_succ] at f0 f1
            have HWD := Lib.hid (Below.drew HW.out)
            clear hfk
            go_upto_region 33 with fail
            go_still_tail 7, (by kernel_rfl)
            go_wp2_with fail
            exact bodyPost_ret (rp_leave HF1.out HZ.out HWD.out _ rfl rfl) rfl (rp_fault HF1.out HZ.out HB1.out HWD.out HRR.out (by first | rfl | omega))
          | some a =>
            rw [hm] at hfd HEQ
            simp only [fndV] at hfd HEQ
            have ha : a ≤ 4096 := HQ.out.marks hm
            have q7 : (a : Int) ≤ 4096 := by omega
            have q8 : (0 : Int) ≤ (a : Int) := by omega
            have q9 : ¬ (a : Int) < 0 := by omega
            clear hm
            go_wp2_with fail
            (with_reducible refine hfd.mono ?_)
            rintro _ w5 ⟨rfl, b5⟩
            have hL5 := HL.out.below b5
            obtain ⟨j1, j2, j3⟩ := (⟨(World.cell?_of_block (b5.block gj (HL.out.ps.jumps.lt gj rfl).2)).trans j1, (World.cell?_of_block (b5.block gj (HL.out.ps.jumps.lt gj rfl).2)).trans j2, trivial⟩ : _ ∧ _ ∧ True)
            have HL5 := Lib.hid hL5
            clear hfd b5 hL5 HL
            go_upto_region 32 with fail
            generalize (a : Int) - j.at_ - 1 = o at *
            cases hin : inI o (-32768) 32767 with
            | false =>
              have HRR : Hid (rr = .error (121, j.line)) := by rw [hin] at HEQ; exact HEQ
              have HW := Lib.hid HL5.out.low
              by_cases ho : o < -32768
              · clear hin
                have hfk := HF1.out.below HW.out HZ.out
                have f0 := hfk.cell 0
                have f1 := hfk.cell 1
                have z0 := hfk.frozen 0
                have z1 := hfk.frozen 1
                simp only [List.getElem?_cons_zero, List.getElem?_cons_succ] at f0 f1
                have HWD := Lib.hid (Below.drew HW.out)
                clear hfk
                go_upto_region 33 with fail
                go_still_tail 7, (by kernel_rfl)
                go_wp2_with fail
                exact bodyPost_ret (rp_leave HF1.out HZ.out HWD.out _ rfl rfl) rfl (rp_fault HF1.out HZ.out HB1.out HWD.out HRR.out (by first | rfl | omega))
              · have ho2 : (32768 : Int) ≤ o := by
                  unfold inI at hin
                  simp at hin
                  have := hin (by omega)
                  omega
                clear hin
                have hfk := HF1.out.below HW.out HZ.out
                have f0 := hfk.cell 0
                have f1 := hfk.cell 1
                have z0 := hfk.frozen 0
                have z1 := hfk.frozen 1
                simp only [List.getElem?_cons_zero, List.getElem?_cons_succ] at f0 f1
                have HWD := Lib.hid (Below.drew HW.out)
                clear hfk
                go_upto_region 33 with fail
                go_still_tail 7, (by kernel_rfl)
                go_wp2_with fail
                exact bodyPost_ret (rp_leave HF1.out HZ.out HWD.out _ rfl rfl) rfl (rp_fault HF1.out HZ.out HB1.out HWD.out HRR.out (by first | rfl | omega))
            | true =>
              have ho1 : ¬ o < -32768 := by unfold inI at hin; simp at hin; omega
              have ho2 : ¬ (32768 : Int) ≤ o := by unfold inI at hin; simp at hin; omega
              rw [hin] at HEQ
              clear hin
              have HEQ2 : Hid (rr = landP st.marks (out.modify j.at_ (offI o)) (st.jumps.drop (k + 1))) := HEQ
              have HLN := Lib.hid HL5.out.len
              have hps := HL5.out.ps
              rw [← HLN.out] at hps
              have HT := Lib.hid (hps.turned j.at_ o)
              have f5 := hps.out.frozenAt (j.at_ * 8 + 5)
              have HLW := Lib.hid (HL5.out.low.setCell (hps.out.lt go rfl).1 (p := ⟨go, j.at_ * 8 + 5, none⟩) (.int .i64 o))
              have HN := Lib.hid (show DL w1 st (k + 1) (out.modify j.at_ (offI o)) (.slice (some ⟨go, 0, none⟩) st.out.length co) (.slice (some ⟨gj, 0, none⟩) st.jumps.length cj) (.slice Am st.marks.length cm) (w5.setCell ⟨go, j.at_ * 8 + 5, none⟩ (.int .i64 o)) from ⟨by have := HT.out; rw [HLN.out] at this; exact this, HLW.out, HRUN.out.symm.trans HEQ2.out, by rw [List.length_modify]; exact HLN.out⟩)
              obtain ⟨o5, ho5⟩ : ∃ o5, w5.cell? ⟨go, j.at_ * 8 + 5, none⟩ = some o5 := by
                have hc := hps.out.cellAt (j.at_ * 8 + 5) (by have := HLN.out; omega)
                rw [hc]
                exact ⟨_, List.getElem?_eq_getElem (by rw [outC_len]; have h9 := HLN.out; show j.at_ * 8 + 5 < out.length * 8; omega)⟩
              clear hps HT HLW HL5
              have HK9 := Lib.hid (show k + 1 ≤ st.jumps.length from hlt)
              go_wp2_with fail
              go_roundw
              case rel => exact ⟨k + 1, out.modify j.at_ (offI o), HK9.out, by go_num, HN⟩
              case measure => simp [intOf]; omega
        · have d3 : decide ((k : Int) < (st.jumps.length : Int)) = false := decide_eq_false (by omega)
          obtain rfl : k = st.jumps.length := by omega
          have HOK := Lib.hid (show rr = .ok out from HRUN.out.trans (HL.out.eq.trans (by rw [List.drop_length]; rfl)))
          have hfk := HF1.out.below HL.out.low HZ.out
          have f0 := hfk.cell 0
          have f1 := hfk.cell 1
          have z0 := hfk.frozen 0
          have z1 := hfk.frozen 1
          simp only [List.getElem?_cons_zero, List.getElem?_cons_succ] at f0 f1
          have HFK := Lib.hid hfk
          clear hfk
          go_wp2_with fail
          have hk2 := flt_bk HFK.out 0 0
          refine bodyPost_ret (leave_rparse w.heap.size _ 0 0 _ _ ⟨hk2.cell 0, hk2.cell 1⟩ rfl rfl) rfl ?_
          rw [HOK.out]
          have hlow := HL.out.ps.out
          have hlen := HL.out.len
          refine ⟨((HB1.out.trans (HL.out.low.mono (Nat.le_of_lt HZ.out))).setCell (Nat.le_refl _) _).setCell (Nat.le_refl _) _, _, rfl, ?_⟩
          have hb := fun g q => (hlow.lt g q).1
          have := own_set (own_set (own_low hlow (Nat.le_of_lt HZ.out)) (p := ⟨w.heap.size, 0, none⟩) (u := .int .i64 0) (fun g q e => by have := hb g q; have := HZ.out; have e : g = w.heap.size := e; omega)) (p := ⟨w.heap.size, 1, none⟩) (u := .int .i64 0) (fun g q e => by have := hb g q; have := HZ.out; have e : g = w.heap.size := e; omega)
          exact this
end Go.Proofs.YtjebjninlejoeaaGreatDoor
