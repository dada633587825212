/- raft: the law of agreement: RaftAgrees. -/
import Derived.Test.YthfofnfkopnbhaaA16
import Derived.Test.YthfofnfkopnbhaaA18
import Derived.OpenShut
import Derived.ShutString
import Derived.ChangeOld
import Derived.Test.YthfofnfkopnbhaaZE
namespace Go.Proofs.Ythfofnfkopnbhaa
open Go.RowKit Go.Maps Go.ChangeMaps
set_option linter.unusedVariables false
set_option linter.unusedSimpArgs false
set_option linter.unusedSectionVars false
set_option maxRecDepth 100000

/-- A move. -/
structure Mv where
  kd : Int
  sv : Int
  nn : Int
  deriving Inhabited
def mvC (m : Mv) : List Value := [.int .i64 m.kd, .int .i64 m.sv, .int .i64 m.nn]
def MvAt (w : World) (K : Nat → Prop) (a : Addr) (m : Mv) : Prop := K a.block ∧ ∀ j, j < 3 → w.cell? (a.add j) = (mvC m)[j]?
def Mvs (w : World) (K : Nat → Prop) (A : Option Addr) (c : Nat) (ms : List Mv) : Prop :=
  (A = none → c = 0) ∧ ms.length ≤ c ∧ c ≤ maxLen ∧ (ms ≠ [] → ∃ a, A = some a ∧ ∀ i d, ms[i]? = some d → MvAt w K (a.add (i * 3)) d)
theorem move_any {w : World} {n j : Nat} {tg : Nat → Int} {y : Ly} {prs : Int → Pr En} {k : Kp} {mk ms mn : Int} (h : WmAt w n tg y prs k) (hr : RW n j prs k) (hj : j ≤ 400) (hnl : k.net.length ≤ 300) :
    Calls Try.prog 8 #[.pointer (some ⟨y.WB, 0, none⟩), mvV mk ms mn] w fun e w' => e = .returned (.bool true) ∧ MvPost n j tg y k w w' := by
  have h12 := pickV_in mk (show (1 : Int) ≤ 12 by decide)
  by_cases h2 : pickV mk 12 ≤ 2
  · exact move_tick h hr hj (by omega) h2
  · by_cases h8 : pickV mk 12 ≤ 8
    · by_cases h0 : 0 < k.net.length
      · exact move_letter h hr hj (by omega) h0 ⟨by omega, h8⟩
      · exact move_idle h hr (List.eq_nil_of_length_eq_zero (by omega)) ⟨by omega, h8⟩
    · by_cases h9 : pickV mk 12 = 9
      · exact move_start h hr hj h9
      · exact move_propose h hr hj (by omega) (by omega)
theorem rw_begun (n : Nat) : RW n 0 (fun _ => prNew 0 0 []) k00 :=
  ⟨⟨gh0, begun_ok⟩, fun s hs => rfl, fun s hs => rfl, fun s hs => rfl, fun s hs => ⟨Nat.le_refl _, Int.le_refl _, fun e => absurd (show (1 : Int) = 3 from e) (by decide), fun l hl => (by cases hl)⟩, fun s hs => ⟨⟨Int.le_refl _, by show (0 : Int) ≤ n; omega⟩, by simp [prNew], fun v hv => (by simp [prNew] at hv), ⟨Int.le_refl _, Int.le_refl _⟩, fun e => absurd (show (1 : Int) = 3 from e) (by decide), fun e he => (by simp [prNew] at he), fun l hl => (by cases hl), Nat.le_refl _⟩, fun l hl => (by cases hl), by simp [k00], by simp [k00]⟩
theorem NetAt.drop {w : World} {tg : Nat → Int} {a : Addr} {n cap : Nat} {ls : List (Lt En)} (h : NetAt w tg (.slice (some a) n cap) ls) (k : Nat) (hk : k < ls.length) : NetAt w tg (.slice (some (a.add (k * 10))) (n - k) (cap - k)) (ls.drop k) := by
  obtain ⟨g, o, ds, h1, h2, h3, h4⟩ := h
  have hn : n = ls.length ∧ a = ⟨g, o, none⟩ := by
    rcases h1.2 with ⟨e, _⟩ | ⟨cap', cur, e, _⟩
    · cases e
    · injection e with e1 e2 _
      injection e1 with e1
      exact ⟨e2, e1⟩
  obtain ⟨rfl, rfl⟩ := hn
  have h5 := h1.from k (by omega) (by omega)
  refine ⟨g, o + k * 10, ds.drop k, ?_, by simp [h2], fun _ => h3 rfl, fun i l d hi hd => h4 (k + i) l d (by simpa using hi) (by simpa using hd)⟩
  rw [rowL_drop k ls ds h2] at h5
  rw [show (⟨g, o, none⟩ : Addr).add (k * 10) = ⟨g, o + k * 10, none⟩ from (by unfold Addr.add; split <;> simp_all), List.length_drop]
  exact h5
theorem goes_below {tg : Nat → Int} {w w1 w2 : World} (hb : Below w.heap.size w w1) (h : Goes (fun _ => 0) tg w1 w2) : Below w.heap.size w w2 :=
  ⟨h.ag.os.trans hb.os, h.ag.tape.trans hb.tape, h.ag.output.trans hb.output, Nat.le_trans hb.size h.ag.size, fun b q => (h.ag.block b (Nat.lt_of_lt_of_le q hb.size) rfl).trans (hb.block b q)⟩
set_option maxHeartbeats 4000000 in
theorem raftAgrees_some (sv : Int) (a : Addr) (c : Nat) (ms : List Mv) (w : World) (h : Mvs w (fun b => b < w.heap.size) (some a) c ms) :
    Calls Try.prog 3 #[.int .i64 sv, .slice (some a) ms.length c] w fun e w' => e = .returned (.bool true) ∧ Below w.heap.size w w' := by
  have hAw := awake_any w
  by_cases hl : 400 < ms.length
  · have d1 : decide ((400 : Int) < (ms.length : Int)) = true := decide_eq_true (by omega)
    clear hl
    go_enter Try.func3, Try.ntmps3
    go_wp2_with (first | (go_at_call 5; (with_reducible refine hAw.mono ?_); rintro _ w1 ⟨rfl, hb1⟩))
    go_ret
    exact ⟨rfl, hb1⟩
  · have d1 : decide ((400 : Int) < (ms.length : Int)) = false := decide_eq_false (by omega)
    have hp7 := pickV_in sv (show (1 : Int) ≤ 7 by decide)
    obtain ⟨n0, hn0⟩ : ∃ n0 : Nat, pickV sv 7 = n0 := ⟨(pickV sv 7).toNat, by omega⟩
    have hPk : ∀ W, Calls Try.prog 7 #[.int .i64 sv, .int .i64 7] W fun e w' => e = .returned (.int .i64 n0) ∧ W = w' := fun W => by rw [← hn0]; exact (pick_is sv 7 _ (by decide) (by decide)).mono (fun e w' h => ⟨h.1, h.2.symm⟩)
    have hn7 : n0 < 7 := by omega
    obtain ⟨n, hn⟩ : ∃ n, n0 + 1 = n := ⟨_, rfl⟩
    have hBg : ∀ W, Calls Try.prog 6 #[.int .i64 (1 + (n0 : Int))] W fun e w' => ∃ (tg : Nat → Int) (y : Ly) (prs : Int → Pr En), e = .returned (.pointer (some ⟨y.WB, 0, none⟩)) ∧ WmAt w' n tg y prs k00 ∧ prs = (fun _ => prNew 0 0 []) ∧ Goes (fun _ => 0) tg W w' := fun W => by
      rw [show (1 + (n0 : Int)) = ((n : Nat) : Int) by omega]
      exact begun_any W n (by omega) (by omega)
    have HM := Lib.hid h
    have HLL := Lib.hid hl
    clear h hl hp7 hn0 hn
    go_enter Try.func3, Try.ntmps3
    go_upto_region 6 with (first | (go_at_call 5; (with_reducible refine hAw.mono ?_); rintro _ w1 ⟨rfl, hb1⟩) | (go_at_call 7; (with_reducible refine (hPk _).mono ?_); rintro _ wx ⟨rfl, rfl⟩) | (go_at_call 6; (with_reducible refine (hBg _).mono ?_); rintro _ w2 ⟨tg2, y2, prs2, rfl, hW2, rfl, hG2⟩))
    have HB1 := Lib.hid hb1
    obtain ⟨WB, hWB⟩ : ∃ WB, y2.WB = WB := ⟨_, rfl⟩
    rw [hWB]
    have hst : ∃ (q : Nat) (tg : Nat → Int) (y : Ly) (prs : Int → Pr En) (k : Kp), q ≤ ms.length ∧ (0 : Int) = q ∧ WmAt w2 n tg y prs k ∧ RW n q prs k ∧ Goes (fun _ => 0) tg w1 w2 ∧ y.WB = WB ∧ k.net.length ≤ 300 := ⟨0, tg2, y2, _, k00, Nat.zero_le _, rfl, hW2, rw_begun n, hG2, hWB, Nat.zero_le _⟩
    clear hW2 hG2 hWB hb1 hAw hPk hBg
    go_wp2_with fail
    go_loopw [6] (fun i wr => ∃ (q : Nat) (tg : Nat → Int) (y : Ly) (prs : Int → Pr En) (k : Kp), q ≤ ms.length ∧ i = .int .i64 q ∧ WmAt wr n tg y prs k ∧ RW n q prs k ∧ Goes (fun _ => 0) tg w1 wr ∧ y.WB = WB ∧ k.net.length ≤ 300) (fun i _ => ms.length - (intOf i).toNat)
    case atStart =>
      obtain ⟨q, tg, y, prs, k, q1, q2, q3⟩ := hst
      exact ⟨q, tg, y, prs, k, q1, by rw [q2], q3⟩
    case round =>
      clear hst
      obtain ⟨q, tg, y, prs, k, hq, rfl, hW, hR, hG, hy, hn⟩ := hrel
      by_cases hqn : q < ms.length
      · have d2 : decide ((q : Int) < (ms.length : Int)) = true := decide_eq_true (by omega)
        obtain ⟨m, hm⟩ : ∃ m, ms[q]? = some m := ⟨_, List.getElem?_eq_getElem hqn⟩
        obtain ⟨a', ha', hat⟩ := HM.out.2.2.2 (by intro e; rw [e] at hqn; simp at hqn)
        injection ha' with ha'
        subst ha'
        obtain ⟨hab, hac⟩ := hat q m hm
        have hbw := goes_below HB1.out hG
        have hwk : ∀ (p : Addr), p.block = (a.add (q * 3)).block → wr.cell? p = w.cell? p := fun p hp => World.cell?_of_block (hbw.block p.block (by rw [hp]; exact hab))
        have m0 : wr.cell? (a.add (q * 3)) = some (.int .i64 m.kd) := (hwk _ rfl).trans (hac 0 (by omega))
        have m1 : wr.cell? ⟨(a.add (q * 3)).block, (a.add (q * 3)).off + 1, none⟩ = some (.int .i64 m.sv) := (hwk ⟨(a.add (q * 3)).block, (a.add (q * 3)).off + 1, none⟩ rfl).trans (hac 1 (by omega))
        have m2 : wr.cell? ⟨(a.add (q * 3)).block, (a.add (q * 3)).off + 2, none⟩ = some (.int .i64 m.nn) := (hwk ⟨(a.add (q * 3)).block, (a.add (q * 3)).off + 2, none⟩ rfl).trans (hac 2 (by omega))
        have hMv := move_any (mk := m.kd) (ms := m.sv) (mn := m.nn) hW hR (by have := HLL.out; omega) hn
        unfold mvV at hMv
        rw [hy] at hMv
        have HG := Lib.hid hG
        have HY := Lib.hid hy
        have HN := Lib.hid hn
        have HQ := Lib.hid hqn
        have hq4 : q ≤ 400 := by have := HLL.out; omega
        clear hW hR hG hy hn hq hm hat hab hac hwk hbw
        go_upto_region 11 with (first | (go_at_call 8; (with_reducible refine hMv.mono ?_); rintro _ w3 ⟨rfl, tg3, y3, prs3, k3, hW3, hR3, hG3, hy3, hn3⟩))
        have hy4 : y3.WB = WB := by rw [hy3]; exact HY.out
        obtain ⟨b0, b1, b2, b3, b4, b5, b6, b7⟩ := hW3.cells
        rw [hy4] at b5
        obtain ⟨nA, ncap, hn1, hncap, _⟩ := (hW3.net (fun h => h)).form
        obtain ⟨nl, hnl⟩ : ∃ nl, k3.net.length = nl := ⟨_, rfl⟩
        rw [hnl] at hn1 hncap
        rw [hn1] at b5
        have hnl4 : nl ≤ 400 := by have := HN.out; omega
        have f5 : w3.frozen? ⟨WB, 5, none⟩ = false := by rw [← hy4]; exact (hW3.wb (fun h => h)).frozen 5
        have HW3 := Lib.hid hW3
        have HR3 := Lib.hid hR3
        have HG3 := Lib.hid (HG.out.trans hG3)
        have HY4 := Lib.hid hy4
        have HN1 := Lib.hid hn1
        have HNL := Lib.hid hnl
        by_cases h3 : 300 < nl
        · have d3 : decide ((300 : Int) < (nl : Int)) = true := decide_eq_true (by omega)
          obtain ⟨na, rfl⟩ : ∃ na, nA = some na := by
            obtain ⟨g, o, ds, r1, _⟩ := hW3.net (fun h => h)
            rcases r1.2 with ⟨e, e2⟩ | ⟨cap', cur, e, _⟩
            · omega
            · rw [hn1] at e; injection e with e; exact ⟨_, e⟩
          have hND := (hW3.net (fun h => h))
          rw [hn1] at hND
          have hND2 := hND.drop 200 (by omega)
          have hws := hW3.netSet hND2
          rw [hy4] at hws
          have HWS := Lib.hid hws
          clear hws
          have hc2 : ¬ ncap = 200 := by omega
          have hc3 : (200 : Int) ≤ (nl : Int) := by omega
          clear hW3 hR3 hG3 hy4 hn1 hnl hy3 hn3 hND hND2 b0 b1 b2 b3 b4 b6 b7 h3
          go_wp2_with fail
          go_roundw
          case rel => exact ⟨q + 1, tg3, _, prs3, _, HQ.out, by go_num, HWS.out.1, HR3.out.lost (fun x hx => List.mem_of_mem_drop hx), HG3.out.trans HWS.out.2, rfl, by have := HNL.out; show (k3.net.drop 200).length ≤ 300; rw [List.length_drop]; omega⟩
          case measure => have := HQ.out; simp [intOf]; omega
        · have d3 : decide ((300 : Int) < (nl : Int)) = false := decide_eq_false (by omega)
          have H3 := Lib.hid h3
          clear hW3 hR3 hG3 hy4 hn1 hnl hy3 hn3 b0 b1 b2 b3 b4 b6 b7
          go_wp2_with fail
          go_roundw
          case rel => exact ⟨q + 1, tg3, y3, prs3, k3, HQ.out, by go_num, HW3.out, HR3.out, HG3.out, HY4.out, by have := HNL.out; have := H3.out; omega⟩
          case measure => have := HQ.out; simp [intOf]; omega
      · have d2 : decide ((q : Int) < (ms.length : Int)) = false := decide_eq_false (by omega)
        have HG := Lib.hid hG
        clear hW hR hG hy hn hq
        go_wp2_with fail
        go_ret
        exact ⟨rfl, goes_below HB1.out HG.out⟩
/-- RaftAgrees: it returns true, whatever comes in. -/
theorem raftAgrees_any (sv : Int) (A : Option Addr) (c : Nat) (ms : List Mv) (w : World) (h : Mvs w (fun b => b < w.heap.size) A c ms) :
    Calls Try.prog 3 #[.int .i64 sv, .slice A ms.length c] w fun e w' => e = .returned (.bool true) ∧ Below w.heap.size w w' := by
  cases A with
  | some a => exact raftAgrees_some sv a c ms w h
  | none =>
    have hms : ms = [] := Classical.byContradiction fun e => by
      obtain ⟨a, ha, _⟩ := h.2.2.2 e
      cases ha
    subst hms
    have hAw := awake_any w
    have hp7 := pickV_in sv (show (1 : Int) ≤ 7 by decide)
    obtain ⟨n0, hn0⟩ : ∃ n0 : Nat, pickV sv 7 = n0 := ⟨(pickV sv 7).toNat, by omega⟩
    have hPk : ∀ W, Calls Try.prog 7 #[.int .i64 sv, .int .i64 7] W fun e w' => e = .returned (.int .i64 n0) ∧ W = w' := fun W => by rw [← hn0]; exact (pick_is sv 7 _ (by decide) (by decide)).mono (fun e w' h => ⟨h.1, h.2.symm⟩)
    have hn7 : n0 < 7 := by omega
    obtain ⟨n, hn⟩ : ∃ n, n0 + 1 = n := ⟨_, rfl⟩
    have hBg : ∀ W, Calls Try.prog 6 #[.int .i64 (1 + (n0 : Int))] W fun e w' => ∃ (tg : Nat → Int) (y : Ly) (prs : Int → Pr En), e = .returned (.pointer (some ⟨y.WB, 0, none⟩)) ∧ WmAt w' n tg y prs k00 ∧ prs = (fun _ => prNew 0 0 []) ∧ Goes (fun _ => 0) tg W w' := fun W => by
      rw [show (1 + (n0 : Int)) = ((n : Nat) : Int) by omega]
      exact begun_any W n (by omega) (by omega)
    clear h hp7 hn0 hn
    simp only [List.length_nil]
    go_enter Try.func3, Try.ntmps3
    go_wp2_with (first | (go_at_call 5; (with_reducible refine hAw.mono ?_); rintro _ w1 ⟨rfl, hb1⟩) | (go_at_call 7; (with_reducible refine (hPk _).mono ?_); rintro _ wx ⟨rfl, rfl⟩) | (go_at_call 6; (with_reducible refine (hBg _).mono ?_); rintro _ w2 ⟨tg2, y2, prs2, rfl, hW2, rfl, hG2⟩))
    have HB := Lib.hid (goes_below hb1 hG2)
    clear hW2 hG2 hAw hPk hBg hb1
    go_loopw [6] (fun i wr => i = .int .i64 0 ∧ wr = w2) (fun i _ => 0)
    case atStart => exact ⟨rfl, rfl⟩
    case round =>
      obtain ⟨rfl, rfl⟩ := hrel
      go_wp2_with fail
      go_ret
      exact ⟨rfl, HB.out⟩
section
open Go.ChangeShapes Go.WideShapes Go.Deep
variable {H : Type} {enc : TypeId × Value → H}
theorem cellsMv : Try.prog.cellsOf 29 = 3 := by kernel_rfl
theorem cellsI : Try.prog.cellsOf 3 = 1 := by kernel_rfl
theorem came_move {W : World} {fuel : Nat} {cs : List Value} {x : DataW H × List MemPlace} (h : DataW.trod enc Try.prog W 0 (fun _ => true) true fuel 29 cs = some x) : ∃ m, cs = mvC m := by
  obtain ⟨xs, n, rfl, hx, hcl, hxl, hf⟩ := DataW.trod_struct Try.underlying29 h
  have hc : cs.length = 3 := hcl.trans (by kernel_rfl)
  match cs, hc with
  | [c0, c1, c2], _ =>
    match xs, hxl with
    | [y0, y1, y2], _ =>
      have h0 := hf 0 _ rfl
      have h1 := hf 1 _ rfl
      have h2 := hf 2 _ rfl
      simp [cellsI] at h0 h1 h2
      obtain ⟨n0, e0, _, w0⟩ := DataW.trod_int Try.underlying3 h0
      obtain ⟨n1, e1, _, w1⟩ := DataW.trod_int Try.underlying3 h1
      obtain ⟨n2, e2, _, w2⟩ := DataW.trod_int Try.underlying3 h2
      injection e0 with e0
      injection e1 with e1
      injection e2 with e2
      exact ⟨⟨n0, n1, n2⟩, by rw [e0, e1, e2]; rfl⟩
/-- Moves that came in. -/
theorem came_moves {W : World} {fuel : Nat} {v : Value} {x : DataW H × List MemPlace} (h : DataW.trod enc Try.prog W 0 (fun _ => true) true fuel 22 [v] = some x) :
    ∃ A c ms, v = .slice A (List.length ms) c ∧ Mvs W (fun b => b < W.heap.size) A c ms := by
  rcases open_slice Try.underlying22 h with ⟨hcs, _⟩ | ⟨a, len, cap, m, n, D, Pl, hcs, hb, hl, hm, hmm, hx, hi⟩
  · injection hcs with hcs
    subst hcs
    exact ⟨none, 0, [], rfl, fun _ => rfl, Nat.le_refl _, by decide, fun h => absurd rfl h⟩
  · injection hcs with hcs
    subst hcs
    simp at hmm
    subst hmm
    rw [cellsMv] at hi
    have each : ∀ i, i < len → ∃ d, MvAt W (fun b => b < W.heap.size) (a.add (i * 3)) d := by
      intro i hil
      obtain ⟨cs', hc, ht⟩ := hi i (by omega)
      obtain ⟨_, hcl, hat⟩ := World.cells?_some hc
      obtain ⟨d, rfl⟩ := came_move ht
      refine ⟨d, ?_, fun j hj => hat j hj⟩
      have h3 := hat 0 (by omega)
      have h4 := World.block_lt_of_cell? W _ (h3.trans (by rfl : (mvC d)[0]? = some (.int .i64 d.kd)))
      rw [add_blk] at h4
      exact h4
    obtain ⟨f, hf⟩ := choose_lt each
    refine ⟨some a, m, (List.range len).map f, by simp, fun e => (by cases e), by simpa using hl, hm, fun _ => ⟨a, rfl, ?_⟩⟩
    intro i e hie
    simp only [List.getElem?_map] at hie
    by_cases hil : i < len
    · simp [hil] at hie
      subst hie
      exact hf i hil
    · simp [hil] at hie
end
end Go.Proofs.Ythfofnfkopnbhaa


