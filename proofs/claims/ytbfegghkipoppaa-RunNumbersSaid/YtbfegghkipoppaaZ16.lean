/- The document's machine: set, move, goto, end. The document's machine: reckon, ask. The document's machine: load, read, write. The document's machine: write. -/
import Derived.StillTailTactics
import Derived.Outline
import Derived.Deep.QuietTactic
import Derived.BigQuiet
import Derived.Deep.RegionHeld3
import Derived.BigRegion
import Derived.Test.YtbfegghkipoppaaZ15
import Derived.Test.YtbfegghkipoppaaZ6
import Derived.Test.YtbfegghkipoppaaZ1
import Derived.Test.YtbfegghkipoppaaZ14
namespace Go.Proofs.Ytbfegghkipoppaa
open Go.RowKit Go.Shelf
set_option linter.unusedVariables false
set_option maxRecDepth 100000
theorem Bk.drewN {w : World} {g : Nat} {t : TypeId} {cs : List Value} (h : Bk w g t cs) (n : Nat) : Bk (w.drewN n) g t cs := h
/-- The document's machine in memory. -/
structure RAt (w : World) (B0 Q RB g cap : Nat) (r st : List Int) : Prop where
  q : Bk w Q 60 [.slice (some ⟨RB, 0, none⟩) 16 16, .slice (some ⟨g, 0, none⟩) 512 cap]
  rb : Bk w RB 28 (r.map (Value.int .u64))
  sb : Rd w w.heap.size (some ⟨g, 0, none⟩) cap (u8s st)
  h1 : B0 ≤ Q
  h2 : B0 ≤ RB
  h3 : B0 ≤ g
  ne1 : Q ≠ RB
  ne2 : g ≠ Q
  ne3 : g ≠ RB
  c1 : 512 ≤ cap
  gl : g < w.heap.size
  ok : MaOk r st
def RSt (w : World) (B0 Q RB : Nat) (r st : List Int) : Prop := ∃ g cap, RAt w B0 Q RB g cap r st
theorem RAt.keep {w w' : World} {B0 Q RB g cap : Nat} {r st : List Int} (h : RAt w B0 Q RB g cap r st) (hb : Below w.heap.size w w') : RAt w' B0 Q RB g cap r st :=
  ⟨h.q.below hb h.q.lt, h.rb.below hb h.rb.lt, (h.sb.below hb).mono hb.size, h.h1, h.h2, h.h3, h.ne1, h.ne2, h.ne3, h.c1, Nat.lt_of_lt_of_le h.gl hb.size, h.ok⟩
theorem RAt.put {w : World} {B0 Q RB g cap : Nat} {r st : List Int} (h : RAt w B0 Q RB g cap r st) (d : Nat) (x : Int) (h0 : 0 ≤ x) (h1 : x ≤ 18446744073709551615) : RAt (w.setCell ⟨RB, d, none⟩ (.int .u64 x)) B0 Q RB g cap (r.set d x) st := by
  refine ⟨h.q.far h.ne1 _, ?_, ⟨h.sb.1, fun hx => ?_⟩, h.h1, h.h2, h.h3, h.ne1, h.ne2, h.ne3, h.c1, by simpa [World.setCell] using h.gl, h.ok.set d x h0 h1⟩
  · have := h.rb.set d (.int .u64 x)
    rwa [← List.map_set] at this
  · obtain ⟨a, e, hb, hc⟩ := h.sb.2 hx
    injection e with e
    subst e
    refine ⟨_, rfl, by simpa [World.setCell] using hb, fun j u hu => (World.cell?_of_block ?_).trans (hc j u hu)⟩
    rw [add_blk]
    exact Below.heap_setCell _ _ _ _ h.ne3
/-- What the document's machine tells of an instruction. -/
def RDid (pk : List Int) (f : Ins) (Q RB B0 : Nat) (r st : List Int) (pc : Int) (w : World) (e : Ending) (w' : World) : Prop :=
  Below B0 w w' ∧ match stepP pk f r st (pc + 1) with
    | .go r' st' pc' dn' => e = .returned (.tuple #[.int .i64 (if dn' then -1 else pc'), .int .i64 0]) ∧ RSt w' B0 Q RB r' st'
    | .err x => e = .returned (.tuple #[.int .i64 0, .int .i64 x]) ∧ RSt w' B0 Q RB r st
def plP (t : Int) : Int := if t < -512 ∨ 0 ≤ t then 512 else t + 512
theorem rplace_any (t : Int) (w : World) (h0 : -9223372036854775808 ≤ t) (h1 : t ≤ 9223372036854775807) : Calls Try.prog 37 #[.int .i64 t] w fun e w' => e = .returned (.int .i64 (plP t)) ∧ w' = w := by
  by_cases h2 : t < -512
  · have d2 : decide (t < -512) = true := decide_eq_true h2
    have HV : Hid (plP t = 512) := Lib.hid (by unfold plP; rw [if_pos (.inl h2)])
    go_enter Try.func37, Try.ntmps37
    go_wp2_with fail
    go_ret
    exact ⟨by rw [HV.out]; rfl, rfl⟩
  · have d2 : decide (t < -512) = false := decide_eq_false h2
    by_cases h3 : 0 ≤ t
    · have d3 : decide (0 ≤ t) = true := decide_eq_true h3
      have HV : Hid (plP t = 512) := Lib.hid (by unfold plP; rw [if_pos (.inr h3)])
      go_enter Try.func37, Try.ntmps37
      go_wp2_with fail
      go_ret
      exact ⟨by rw [HV.out]; rfl, rfl⟩
    · have d3 : decide (0 ≤ t) = false := decide_eq_false h3
      have HV : Hid (plP t = t + 512) := Lib.hid (by unfold plP; rw [if_neg (by omega)])
      go_enter Try.func37, Try.ntmps37
      go_wp2_with fail
      go_ret
      exact ⟨by rw [HV.out]; rfl, rfl⟩
theorem rreg {r : List Int} {i : Nat} {x : Int} {w : World} {RB : Nat} (h : Bk w RB 28 (r.map (Value.int .u64))) (hx : r[i]? = some x) : w.cell? ⟨RB, i, none⟩ = some (.int .u64 x) := by
  rw [h.cell, List.getElem?_map, hx]; rfl
theorem rst_ret {pk : List Int} {f : Ins} {Q RB B0 g cap : Nat} {r st r' st' : List Int} {pc pc' : Int} {dn' : Bool} {w w' : World} (hs : stepP pk f r st (pc + 1) = .go r' st' pc' dn') (hb : Below B0 w w') (h : RAt w' B0 Q RB g cap r' st') {v : Int} (hv : v = if dn' then -1 else pc') :
    RDid pk f Q RB B0 r st pc w (.returned (.tuple #[.int .i64 v, .int .i64 0])) w' := by
  unfold RDid
  rw [hs, hv]
  exact ⟨hb, rfl, g, cap, h⟩
theorem rst_err {pk : List Int} {f : Ins} {Q RB B0 g cap : Nat} {r st : List Int} {pc x : Int} {w w' : World} (hs : stepP pk f r st (pc + 1) = .err x) (hb : Below B0 w w') (h : RAt w' B0 Q RB g cap r st) :
    RDid pk f Q RB B0 r st pc w (.returned (.tuple #[.int .i64 0, .int .i64 x])) w' := by
  unfold RDid
  rw [hs]
  exact ⟨hb, rfl, g, cap, h⟩
set_option linter.unusedSimpArgs false in
set_option maxHeartbeats 4000000 in
theorem ro_set (f : Ins) (Q RB B0 g cap d a : Nat) (r st : List Int) (P : Option Addr) (d0 : Nat) (pk : List Int) (pc : Int) (x : Int) (w : World) (hS : RAt w B0 Q RB g cap r st) (hB0 : B0 ≤ w.heap.size) (hop : f.op = 1) (hd : Hid (f.d = d)) (hd' : d < 16) (ha : Hid (f.a = a)) (hx : r[a]? = some x) (hf : InsOk f) (hp0 : 0 ≤ pc) (hp1 : pc ≤ 20000) :
    Calls Try.prog 22 #[.pointer (some ⟨Q, 0, none⟩), insA f, .int .i64 pc, .slice P pk.length d0] w (RDid pk f Q RB B0 r st pc w) := by
  have id1 : (0 : Int) ≤ (d : Int) := by omega
  have id2 : (d : Int) < 16 := by omega
  have ha' : a < 16 := by have := (List.getElem?_eq_some_iff.1 hx).1; rw [hS.ok.rl] at this; exact this
  obtain ⟨hx0, hx1⟩ := hS.ok.rb x (List.mem_of_getElem? hx)
  have ia1 : (0 : Int) ≤ (a : Int) := by omega
  have ia2 : (a : Int) < 16 := by omega
  obtain ⟨hn0, hn1⟩ : 0 ≤ f.n ∧ f.n ≤ 18446744073709551615 := ⟨hf.n0, hf.n1⟩
  have HST : Hid (stepP pk f r st (pc + 1) = .go (r.set d f.n) st (pc + 1) false) := Lib.hid (by unfold stepP; simp [hop, hd.out])
  have HOP := Lib.hid hop
  have HF := Lib.hid hf
  unfold insA insV
  rw [hop, hd.out, ha.out]
  clear hop hf
  have hX := Bk.new w 40 [.int .u8 1, .int .u8 f.what, .bool f.nar, .int .i64 (d : Int), .int .i64 (a : Int), .int .i64 f.b, .int .u64 f.n, .int .i64 f.size, .int .i64 f.to]
  have hW := hS.keep ((Below.refl _ _).alloc (Nat.le_refl _) (.cells #[.int .u8 1, .int .u8 f.what, .bool f.nar, .int .i64 (d : Int), .int .i64 (a : Int), .int .i64 f.b, .int .u64 f.n, .int .i64 f.size, .int .i64 f.to] 40))
  have hBB : Below B0 w (w.alloc (.cells #[.int .u8 1, .int .u8 f.what, .bool f.nar, .int .i64 (d : Int), .int .i64 (a : Int), .int .i64 f.b, .int .u64 f.n, .int .i64 f.size, .int .i64 f.to] 40)) := (Below.refl _ _).alloc hB0 _
  have hsz : w.heap.size < (w.alloc (.cells #[.int .u8 1, .int .u8 f.what, .bool f.nar, .int .i64 (d : Int), .int .i64 (a : Int), .int .i64 f.b, .int .u64 f.n, .int .i64 f.size, .int .i64 f.to] 40)).heap.size := by simp
  clear hS
  go_enter Try.func22, Try.ntmps22
  go_wp2_with fail
  generalize w.alloc (.cells #[.int .u8 1, .int .u8 f.what, .bool f.nar, .int .i64 (d : Int), .int .i64 (a : Int), .int .i64 f.b, .int .u64 f.n, .int .i64 f.size, .int .i64 f.to] 40) = W at *
  generalize w.heap.size = X at *
  have e0 := hX.cell 0
  have e1 := hX.cell 1
  have e2 := hX.cell 2
  have e3 := hX.cell 3
  have e4 := hX.cell 4
  have e5 := hX.cell 5
  have e6 := hX.cell 6
  have e7 := hX.cell 7
  have e8 := hX.cell 8
  have cq0 := hW.q.cell 0
  have cq1 := hW.q.cell 1
  simp only [List.getElem?_cons_zero, List.getElem?_cons_succ] at cq0 cq1 e0 e1 e2 e3 e4 e5 e6 e7 e8
  obtain ⟨z, hz, _, _⟩ := hW.ok.get d hd'
  have ce := rreg hW.rb hz
  have fz := hW.rb.frozen d
  clear hz
  have ca := rreg hW.rb hx
  have HW := Lib.hid hW
  have HX := Lib.hid hX
  have HBB := Lib.hid hBB
  clear hW hX hBB
  go_still_tail 12, (by kernel_rfl)
  go_wp2_with fail
  have hW := HW.out.keep (Below.refl _ _).drew
  have hX := HX.out.drew
  have hBB := HBB.out.drew
  have hsz' := hsz
  clear e0 e1 e2 e3 e4 e5 e6 e7 e8 cq0 cq1 ce fz ca
  clear HW HX HBB
  generalize W.drew = W1 at *
  have e0 := hX.cell 0
  have e1 := hX.cell 1
  have e2 := hX.cell 2
  have e3 := hX.cell 3
  have e4 := hX.cell 4
  have e5 := hX.cell 5
  have e6 := hX.cell 6
  have e7 := hX.cell 7
  have e8 := hX.cell 8
  have cq0 := hW.q.cell 0
  have cq1 := hW.q.cell 1
  simp only [List.getElem?_cons_zero, List.getElem?_cons_succ] at cq0 cq1 e0 e1 e2 e3 e4 e5 e6 e7 e8
  obtain ⟨z, hz, _, _⟩ := hW.ok.get d hd'
  have ce := rreg hW.rb hz
  have fz := hW.rb.frozen d
  clear hz
  have ca := rreg hW.rb hx
  have HW := Lib.hid hW
  have HX := Lib.hid hX
  have HBB := Lib.hid hBB
  clear hW hX hBB
  go_still_tail 9, (by kernel_rfl)
  go_wp2_with fail
  go_ret2
  exact rst_ret (Hid.out HST) (HBB.out.setCell HW.out.h2 _).drew ((HW.out.put d f.n HF.out.n0 HF.out.n1).keep (Below.refl _ _).drew) (by simp)
set_option linter.unusedSimpArgs false in
set_option maxHeartbeats 4000000 in
theorem ro_move (f : Ins) (Q RB B0 g cap d a : Nat) (r st : List Int) (P : Option Addr) (d0 : Nat) (pk : List Int) (pc : Int) (x : Int) (w : World) (hS : RAt w B0 Q RB g cap r st) (hB0 : B0 ≤ w.heap.size) (hop : f.op = 2) (hd : Hid (f.d = d)) (hd' : d < 16) (ha : Hid (f.a = a)) (hx : r[a]? = some x) (hf : InsOk f) (hp0 : 0 ≤ pc) (hp1 : pc ≤ 20000) :
    Calls Try.prog 22 #[.pointer (some ⟨Q, 0, none⟩), insA f, .int .i64 pc, .slice P pk.length d0] w (RDid pk f Q RB B0 r st pc w) := by
  have id1 : (0 : Int) ≤ (d : Int) := by omega
  have id2 : (d : Int) < 16 := by omega
  have ha' : a < 16 := by have := (List.getElem?_eq_some_iff.1 hx).1; rw [hS.ok.rl] at this; exact this
  obtain ⟨hx0, hx1⟩ := hS.ok.rb x (List.mem_of_getElem? hx)
  have ia1 : (0 : Int) ≤ (a : Int) := by omega
  have ia2 : (a : Int) < 16 := by omega
  obtain ⟨hn0, hn1⟩ : 0 ≤ f.n ∧ f.n ≤ 18446744073709551615 := ⟨hf.n0, hf.n1⟩
  have HST : Hid (stepP pk f r st (pc + 1) = .go (r.set d x) st (pc + 1) false) := Lib.hid (by unfold stepP; simp [hop, hd.out, ha.out, hx])
  have HOP := Lib.hid hop
  have HF := Lib.hid hf
  unfold insA insV
  rw [hop, hd.out, ha.out]
  clear hop hf
  have hX := Bk.new w 40 [.int .u8 2, .int .u8 f.what, .bool f.nar, .int .i64 (d : Int), .int .i64 (a : Int), .int .i64 f.b, .int .u64 f.n, .int .i64 f.size, .int .i64 f.to]
  have hW := hS.keep ((Below.refl _ _).alloc (Nat.le_refl _) (.cells #[.int .u8 2, .int .u8 f.what, .bool f.nar, .int .i64 (d : Int), .int .i64 (a : Int), .int .i64 f.b, .int .u64 f.n, .int .i64 f.size, .int .i64 f.to] 40))
  have hBB : Below B0 w (w.alloc (.cells #[.int .u8 2, .int .u8 f.what, .bool f.nar, .int .i64 (d : Int), .int .i64 (a : Int), .int .i64 f.b, .int .u64 f.n, .int .i64 f.size, .int .i64 f.to] 40)) := (Below.refl _ _).alloc hB0 _
  have hsz : w.heap.size < (w.alloc (.cells #[.int .u8 2, .int .u8 f.what, .bool f.nar, .int .i64 (d : Int), .int .i64 (a : Int), .int .i64 f.b, .int .u64 f.n, .int .i64 f.size, .int .i64 f.to] 40)).heap.size := by simp
  clear hS
  go_enter Try.func22, Try.ntmps22
  go_wp2_with fail
  generalize w.alloc (.cells #[.int .u8 2, .int .u8 f.what, .bool f.nar, .int .i64 (d : Int), .int .i64 (a : Int), .int .i64 f.b, .int .u64 f.n, .int .i64 f.size, .int .i64 f.to] 40) = W at *
  generalize w.heap.size = X at *
  have e0 := hX.cell 0
  have e1 := hX.cell 1
  have e2 := hX.cell 2
  have e3 := hX.cell 3
  have e4 := hX.cell 4
  have e5 := hX.cell 5
  have e6 := hX.cell 6
  have e7 := hX.cell 7
  have e8 := hX.cell 8
  have cq0 := hW.q.cell 0
  have cq1 := hW.q.cell 1
  simp only [List.getElem?_cons_zero, List.getElem?_cons_succ] at cq0 cq1 e0 e1 e2 e3 e4 e5 e6 e7 e8
  obtain ⟨z, hz, _, _⟩ := hW.ok.get d hd'
  have ce := rreg hW.rb hz
  have fz := hW.rb.frozen d
  clear hz
  have ca := rreg hW.rb hx
  have HW := Lib.hid hW
  have HX := Lib.hid hX
  have HBB := Lib.hid hBB
  clear hW hX hBB
  go_still_tail 12, (by kernel_rfl)
  go_wp2_with fail
  have hW := HW.out.keep (Below.refl _ _).drew
  have hX := HX.out.drew
  have hBB := HBB.out.drew
  have hsz' := hsz
  clear e0 e1 e2 e3 e4 e5 e6 e7 e8 cq0 cq1 ce fz ca
  clear HW HX HBB
  generalize W.drew = W1 at *
  have e0 := hX.cell 0
  have e1 := hX.cell 1
  have e2 := hX.cell 2
  have e3 := hX.cell 3
  have e4 := hX.cell 4
  have e5 := hX.cell 5
  have e6 := hX.cell 6
  have e7 := hX.cell 7
  have e8 := hX.cell 8
  have cq0 := hW.q.cell 0
  have cq1 := hW.q.cell 1
  simp only [List.getElem?_cons_zero, List.getElem?_cons_succ] at cq0 cq1 e0 e1 e2 e3 e4 e5 e6 e7 e8
  obtain ⟨z, hz, _, _⟩ := hW.ok.get d hd'
  have ce := rreg hW.rb hz
  have fz := hW.rb.frozen d
  clear hz
  have ca := rreg hW.rb hx
  have HW := Lib.hid hW
  have HX := Lib.hid hX
  have HBB := Lib.hid hBB
  clear hW hX hBB
  go_still_tail 15, (by kernel_rfl)
  go_wp2_with fail
  go_ret2
  exact rst_ret (Hid.out HST) (HBB.out.setCell HW.out.h2 _).drew ((HW.out.put d x hx0 hx1).keep (Below.refl _ _).drew) (by simp)
set_option linter.unusedSimpArgs false in
set_option maxHeartbeats 4000000 in
theorem ro_jump (f : Ins) (Q RB B0 g cap a : Nat) (r st : List Int) (P : Option Addr) (d0 : Nat) (pk : List Int) (pc : Int) (x : Int) (w : World) (hS : RAt w B0 Q RB g cap r st) (hB0 : B0 ≤ w.heap.size) (hop : f.op = 7) (ha : Hid (f.a = a)) (hx : r[a]? = some x) (hf : InsOk f) (hp0 : 0 ≤ pc) (hp1 : pc ≤ 20000) :
    Calls Try.prog 22 #[.pointer (some ⟨Q, 0, none⟩), insA f, .int .i64 pc, .slice P pk.length d0] w (RDid pk f Q RB B0 r st pc w) := by
  have ha' : a < 16 := by have := (List.getElem?_eq_some_iff.1 hx).1; rw [hS.ok.rl] at this; exact this
  obtain ⟨hx0, hx1⟩ := hS.ok.rb x (List.mem_of_getElem? hx)
  have ia1 : (0 : Int) ≤ (a : Int) := by omega
  have ia2 : (a : Int) < 16 := by omega
  obtain ⟨hn0, hn1⟩ : 0 ≤ f.n ∧ f.n ≤ 18446744073709551615 := ⟨hf.n0, hf.n1⟩
  have HST : Hid (stepP pk f r st (pc + 1) = .go r st f.to false) := Lib.hid (by unfold stepP; simp [hop])
  have HOP := Lib.hid hop
  have HF := Lib.hid hf
  unfold insA insV
  rw [hop, ha.out]
  clear hop hf
  have hX := Bk.new w 40 [.int .u8 7, .int .u8 f.what, .bool f.nar, .int .i64 f.d, .int .i64 (a : Int), .int .i64 f.b, .int .u64 f.n, .int .i64 f.size, .int .i64 f.to]
  have hW := hS.keep ((Below.refl _ _).alloc (Nat.le_refl _) (.cells #[.int .u8 7, .int .u8 f.what, .bool f.nar, .int .i64 f.d, .int .i64 (a : Int), .int .i64 f.b, .int .u64 f.n, .int .i64 f.size, .int .i64 f.to] 40))
  have hBB : Below B0 w (w.alloc (.cells #[.int .u8 7, .int .u8 f.what, .bool f.nar, .int .i64 f.d, .int .i64 (a : Int), .int .i64 f.b, .int .u64 f.n, .int .i64 f.size, .int .i64 f.to] 40)) := (Below.refl _ _).alloc hB0 _
  have hsz : w.heap.size < (w.alloc (.cells #[.int .u8 7, .int .u8 f.what, .bool f.nar, .int .i64 f.d, .int .i64 (a : Int), .int .i64 f.b, .int .u64 f.n, .int .i64 f.size, .int .i64 f.to] 40)).heap.size := by simp
  clear hS
  go_enter Try.func22, Try.ntmps22
  go_wp2_with fail
  generalize w.alloc (.cells #[.int .u8 7, .int .u8 f.what, .bool f.nar, .int .i64 f.d, .int .i64 (a : Int), .int .i64 f.b, .int .u64 f.n, .int .i64 f.size, .int .i64 f.to] 40) = W at *
  generalize w.heap.size = X at *
  have e0 := hX.cell 0
  have e1 := hX.cell 1
  have e2 := hX.cell 2
  have e3 := hX.cell 3
  have e4 := hX.cell 4
  have e5 := hX.cell 5
  have e6 := hX.cell 6
  have e7 := hX.cell 7
  have e8 := hX.cell 8
  have cq0 := hW.q.cell 0
  have cq1 := hW.q.cell 1
  simp only [List.getElem?_cons_zero, List.getElem?_cons_succ] at cq0 cq1 e0 e1 e2 e3 e4 e5 e6 e7 e8
  have ca := rreg hW.rb hx
  have HW := Lib.hid hW
  have HX := Lib.hid hX
  have HBB := Lib.hid hBB
  clear hW hX hBB
  go_still_tail 12, (by kernel_rfl)
  go_wp2_with fail
  go_ret2
  exact rst_ret (Hid.out HST) HBB.out.drew (HW.out.keep (Below.refl _ _).drew) (by simp)
set_option linter.unusedSimpArgs false in
set_option maxHeartbeats 4000000 in
theorem ro_end (f : Ins) (Q RB B0 g cap a : Nat) (r st : List Int) (P : Option Addr) (d0 : Nat) (pk : List Int) (pc : Int) (x : Int) (w : World) (hS : RAt w B0 Q RB g cap r st) (hB0 : B0 ≤ w.heap.size) (hop : f.op = 9) (ha : Hid (f.a = a)) (hx : r[a]? = some x) (hf : InsOk f) (hp0 : 0 ≤ pc) (hp1 : pc ≤ 20000) :
    Calls Try.prog 22 #[.pointer (some ⟨Q, 0, none⟩), insA f, .int .i64 pc, .slice P pk.length d0] w (RDid pk f Q RB B0 r st pc w) := by
  have ha' : a < 16 := by have := (List.getElem?_eq_some_iff.1 hx).1; rw [hS.ok.rl] at this; exact this
  obtain ⟨hx0, hx1⟩ := hS.ok.rb x (List.mem_of_getElem? hx)
  have ia1 : (0 : Int) ≤ (a : Int) := by omega
  have ia2 : (a : Int) < 16 := by omega
  obtain ⟨hn0, hn1⟩ : 0 ≤ f.n ∧ f.n ≤ 18446744073709551615 := ⟨hf.n0, hf.n1⟩
  have HST : Hid (stepP pk f r st (pc + 1) = .go r st (pc + 1) true) := Lib.hid (by unfold stepP; simp [hop])
  have HOP := Lib.hid hop
  have HF := Lib.hid hf
  unfold insA insV
  rw [hop, ha.out]
  clear hop hf
  have hX := Bk.new w 40 [.int .u8 9, .int .u8 f.what, .bool f.nar, .int .i64 f.d, .int .i64 (a : Int), .int .i64 f.b, .int .u64 f.n, .int .i64 f.size, .int .i64 f.to]
  have hW := hS.keep ((Below.refl _ _).alloc (Nat.le_refl _) (.cells #[.int .u8 9, .int .u8 f.what, .bool f.nar, .int .i64 f.d, .int .i64 (a : Int), .int .i64 f.b, .int .u64 f.n, .int .i64 f.size, .int .i64 f.to] 40))
  have hBB : Below B0 w (w.alloc (.cells #[.int .u8 9, .int .u8 f.what, .bool f.nar, .int .i64 f.d, .int .i64 (a : Int), .int .i64 f.b, .int .u64 f.n, .int .i64 f.size, .int .i64 f.to] 40)) := (Below.refl _ _).alloc hB0 _
  have hsz : w.heap.size < (w.alloc (.cells #[.int .u8 9, .int .u8 f.what, .bool f.nar, .int .i64 f.d, .int .i64 (a : Int), .int .i64 f.b, .int .u64 f.n, .int .i64 f.size, .int .i64 f.to] 40)).heap.size := by simp
  clear hS
  go_enter Try.func22, Try.ntmps22
  go_wp2_with fail
  generalize w.alloc (.cells #[.int .u8 9, .int .u8 f.what, .bool f.nar, .int .i64 f.d, .int .i64 (a : Int), .int .i64 f.b, .int .u64 f.n, .int .i64 f.size, .int .i64 f.to] 40) = W at *
  generalize w.heap.size = X at *
  have e0 := hX.cell 0
  have e1 := hX.cell 1
  have e2 := hX.cell 2
  have e3 := hX.cell 3
  have e4 := hX.cell 4
  have e5 := hX.cell 5
  have e6 := hX.cell 6
  have e7 := hX.cell 7
  have e8 := hX.cell 8
  have cq0 := hW.q.cell 0
  have cq1 := hW.q.cell 1
  simp only [List.getElem?_cons_zero, List.getElem?_cons_succ] at cq0 cq1 e0 e1 e2 e3 e4 e5 e6 e7 e8
  have ca := rreg hW.rb hx
  have HW := Lib.hid hW
  have HX := Lib.hid hX
  have HBB := Lib.hid hBB
  clear hW hX hBB
  go_still_tail 12, (by kernel_rfl)
  go_wp2_with fail
  go_ret2
  exact rst_ret (Hid.out HST) HBB.out.drew (HW.out.keep (Below.refl _ _).drew) (by simp)
end Go.Proofs.Ytbfegghkipoppaa
namespace Go.Proofs.Ytbfegghkipoppaa
open Go.RowKit Go.Shelf
set_option linter.unusedVariables false
set_option maxRecDepth 100000
theorem drewN_below (w : World) (n : Nat) : Below w.heap.size w (w.drewN n) := ⟨rfl, rfl, rfl, Nat.le_refl _, fun _ _ => rfl⟩
set_option linter.unusedSimpArgs false in
set_option maxHeartbeats 4000000 in
theorem ro_alu (f : Ins) (Q RB B0 g cap d a b : Nat) (r st : List Int) (P : Option Addr) (d0 : Nat) (pk : List Int) (pc : Int) (x y : Nat) (w : World) (hS : RAt w B0 Q RB g cap r st) (hB0 : B0 ≤ w.heap.size) (hop : f.op = 3) (hd : Hid (f.d = d)) (hd' : d < 16) (ha : Hid (f.a = a)) (hx : r[a]? = some (x : Int)) (hb : Hid (f.b = b)) (hy : r[b]? = some (y : Int)) (hf : InsOk f) (hp0 : 0 ≤ pc) (hp1 : pc ≤ 20000) (he : Hid (DoE f.nar f.what y = 0)) :
    Calls Try.prog 22 #[.pointer (some ⟨Q, 0, none⟩), insA f, .int .i64 pc, .slice P pk.length d0] w (RDid pk f Q RB B0 r st pc w) := by
  have id1 : (0 : Int) ≤ (d : Int) := by omega
  have id2 : (d : Int) < 16 := by omega
  have ha' : a < 16 := by have := (List.getElem?_eq_some_iff.1 hx).1; rw [hS.ok.rl] at this; exact this
  obtain ⟨hx0, hx1⟩ := hS.ok.rb (x : Int) (List.mem_of_getElem? hx)
  have ia1 : (0 : Int) ≤ (a : Int) := by omega
  have ia2 : (a : Int) < 16 := by omega
  have hb' : b < 16 := by have := (List.getElem?_eq_some_iff.1 hy).1; rw [hS.ok.rl] at this; exact this
  obtain ⟨hy0, hy1⟩ := hS.ok.rb (y : Int) (List.mem_of_getElem? hy)
  have ib1 : (0 : Int) ≤ (b : Int) := by omega
  have ib2 : (b : Int) < 16 := by omega
  obtain ⟨hn0, hn1⟩ : 0 ≤ f.n ∧ f.n ≤ 18446744073709551615 := ⟨hf.n0, hf.n1⟩
  have HST : Hid (stepP pk f r st (pc + 1) = .go (r.set d (DoV f.nar f.what x y)) st (pc + 1) false) := Lib.hid (by unfold stepP; simp [hop, hd.out, ha.out, hx, hb.out, hy, he.out])
  have HOP := Lib.hid hop
  have HF := Lib.hid hf
  unfold insA insV
  rw [hop, hd.out, ha.out, hb.out]
  clear hop hf
  have hX := Bk.new w 40 [.int .u8 3, .int .u8 f.what, .bool f.nar, .int .i64 (d : Int), .int .i64 (a : Int), .int .i64 (b : Int), .int .u64 f.n, .int .i64 f.size, .int .i64 f.to]
  have hW := hS.keep ((Below.refl _ _).alloc (Nat.le_refl _) (.cells #[.int .u8 3, .int .u8 f.what, .bool f.nar, .int .i64 (d : Int), .int .i64 (a : Int), .int .i64 (b : Int), .int .u64 f.n, .int .i64 f.size, .int .i64 f.to] 40))
  have hBB : Below B0 w (w.alloc (.cells #[.int .u8 3, .int .u8 f.what, .bool f.nar, .int .i64 (d : Int), .int .i64 (a : Int), .int .i64 (b : Int), .int .u64 f.n, .int .i64 f.size, .int .i64 f.to] 40)) := (Below.refl _ _).alloc hB0 _
  have hsz : w.heap.size < (w.alloc (.cells #[.int .u8 3, .int .u8 f.what, .bool f.nar, .int .i64 (d : Int), .int .i64 (a : Int), .int .i64 (b : Int), .int .u64 f.n, .int .i64 f.size, .int .i64 f.to] 40)).heap.size := by simp
  clear hS
  go_enter Try.func22, Try.ntmps22
  go_wp2_with fail
  generalize w.alloc (.cells #[.int .u8 3, .int .u8 f.what, .bool f.nar, .int .i64 (d : Int), .int .i64 (a : Int), .int .i64 (b : Int), .int .u64 f.n, .int .i64 f.size, .int .i64 f.to] 40) = W at *
  generalize w.heap.size = X at *
  have e0 := hX.cell 0
  have e1 := hX.cell 1
  have e2 := hX.cell 2
  have e3 := hX.cell 3
  have e4 := hX.cell 4
  have e5 := hX.cell 5
  have e6 := hX.cell 6
  have e7 := hX.cell 7
  have e8 := hX.cell 8
  have cq0 := hW.q.cell 0
  have cq1 := hW.q.cell 1
  simp only [List.getElem?_cons_zero, List.getElem?_cons_succ] at cq0 cq1 e0 e1 e2 e3 e4 e5 e6 e7 e8
  obtain ⟨z, hz, _, _⟩ := hW.ok.get d hd'
  have ce := rreg hW.rb hz
  have fz := hW.rb.frozen d
  clear hz
  have ca := rreg hW.rb hx
  have cb := rreg hW.rb hy
  have HW := Lib.hid hW
  have HX := Lib.hid hX
  have HBB := Lib.hid hBB
  clear hW hX hBB
  go_still_tail 12, (by kernel_rfl)
  go_wp2_with fail
  have hW := HW.out.keep (Below.refl _ _).drew
  have hX := HX.out.drew
  have hBB := HBB.out.drew
  have hsz' := hsz
  clear e0 e1 e2 e3 e4 e5 e6 e7 e8 cq0 cq1 ce fz ca cb
  clear HW HX HBB
  generalize W.drew = W1 at *
  have e0 := hX.cell 0
  have e1 := hX.cell 1
  have e2 := hX.cell 2
  have e3 := hX.cell 3
  have e4 := hX.cell 4
  have e5 := hX.cell 5
  have e6 := hX.cell 6
  have e7 := hX.cell 7
  have e8 := hX.cell 8
  have cq0 := hW.q.cell 0
  have cq1 := hW.q.cell 1
  simp only [List.getElem?_cons_zero, List.getElem?_cons_succ] at cq0 cq1 e0 e1 e2 e3 e4 e5 e6 e7 e8
  obtain ⟨z, hz, _, _⟩ := hW.ok.get d hd'
  have ce := rreg hW.rb hz
  have fz := hW.rb.frozen d
  clear hz
  have ca := rreg hW.rb hx
  have cb := rreg hW.rb hy
  have HW := Lib.hid hW
  have HX := Lib.hid hX
  have HBB := Lib.hid hBB
  clear hW hX hBB
  go_quiet ((go_at_call 35; exact Calls.quiet_of (rDo_any f.nar f.what x y _ (by omega) (by omega))))
  have hW := HW.out.keep (drewN_below W1 nq)
  have hX := HX.out.drewN nq
  have hBB : Below B0 w (W1.drewN nq) := HBB.out.trans ⟨rfl, rfl, rfl, Nat.le_refl _, fun _ _ => rfl⟩
  clear e0 e1 e2 e3 e4 e5 e6 e7 e8 cq0 cq1 ce fz ca cb
  clear HW HX HBB
  generalize W1.drewN nq = W2 at *
  have e0 := hX.cell 0
  have e1 := hX.cell 1
  have e2 := hX.cell 2
  have e3 := hX.cell 3
  have e4 := hX.cell 4
  have e5 := hX.cell 5
  have e6 := hX.cell 6
  have e7 := hX.cell 7
  have e8 := hX.cell 8
  have cq0 := hW.q.cell 0
  have cq1 := hW.q.cell 1
  simp only [List.getElem?_cons_zero, List.getElem?_cons_succ] at cq0 cq1 e0 e1 e2 e3 e4 e5 e6 e7 e8
  obtain ⟨z, hz, _, _⟩ := hW.ok.get d hd'
  have ce := rreg hW.rb hz
  have fz := hW.rb.frozen d
  clear hz
  have ca := rreg hW.rb hx
  have cb := rreg hW.rb hy
  have HW := Lib.hid hW
  have HX := Lib.hid hX
  have HBB := Lib.hid hBB
  clear hW hX hBB
  obtain ⟨hv0, hv1⟩ := DoV_range f.nar f.what x y hx0 hx1 hy0 hy1
  rw [he.out]
  go_wp2_with fail
  go_still_tail 8, (by kernel_rfl)
  go_wp2_with fail
  go_ret2
  exact rst_ret (Hid.out HST) (HBB.out.setCell HW.out.h2 _).drew ((HW.out.put d (DoV f.nar f.what x y) hv0 hv1).keep (Below.refl _ _).drew) (by simp)
set_option linter.unusedSimpArgs false in
set_option maxHeartbeats 4000000 in
theorem ro_alu_err (f : Ins) (Q RB B0 g cap a b : Nat) (r st : List Int) (P : Option Addr) (d0 : Nat) (pk : List Int) (pc : Int) (x y : Nat) (w : World) (hS : RAt w B0 Q RB g cap r st) (hB0 : B0 ≤ w.heap.size) (hop : f.op = 3) (ha : Hid (f.a = a)) (hx : r[a]? = some (x : Int)) (hb : Hid (f.b = b)) (hy : r[b]? = some (y : Int)) (hf : InsOk f) (hp0 : 0 ≤ pc) (hp1 : pc ≤ 20000) (he : Hid ((DoE f.nar f.what y != 0) = true)) :
    Calls Try.prog 22 #[.pointer (some ⟨Q, 0, none⟩), insA f, .int .i64 pc, .slice P pk.length d0] w (RDid pk f Q RB B0 r st pc w) := by
  have ha' : a < 16 := by have := (List.getElem?_eq_some_iff.1 hx).1; rw [hS.ok.rl] at this; exact this
  obtain ⟨hx0, hx1⟩ := hS.ok.rb (x : Int) (List.mem_of_getElem? hx)
  have ia1 : (0 : Int) ≤ (a : Int) := by omega
  have ia2 : (a : Int) < 16 := by omega
  have hb' : b < 16 := by have := (List.getElem?_eq_some_iff.1 hy).1; rw [hS.ok.rl] at this; exact this
  obtain ⟨hy0, hy1⟩ := hS.ok.rb (y : Int) (List.mem_of_getElem? hy)
  have ib1 : (0 : Int) ≤ (b : Int) := by omega
  have ib2 : (b : Int) < 16 := by omega
  obtain ⟨hn0, hn1⟩ : 0 ≤ f.n ∧ f.n ≤ 18446744073709551615 := ⟨hf.n0, hf.n1⟩
  have hne : ¬ DoE f.nar f.what y = 0 := by simpa using he.out
  have HST : Hid (stepP pk f r st (pc + 1) = .err (DoE f.nar f.what y)) := Lib.hid (by unfold stepP; simp [hop, ha.out, hx, hb.out, hy, hne])
  clear hne
  have HOP := Lib.hid hop
  have HF := Lib.hid hf
  unfold insA insV
  rw [hop, ha.out, hb.out]
  clear hop hf
  have hX := Bk.new w 40 [.int .u8 3, .int .u8 f.what, .bool f.nar, .int .i64 f.d, .int .i64 (a : Int), .int .i64 (b : Int), .int .u64 f.n, .int .i64 f.size, .int .i64 f.to]
  have hW := hS.keep ((Below.refl _ _).alloc (Nat.le_refl _) (.cells #[.int .u8 3, .int .u8 f.what, .bool f.nar, .int .i64 f.d, .int .i64 (a : Int), .int .i64 (b : Int), .int .u64 f.n, .int .i64 f.size, .int .i64 f.to] 40))
  have hBB : Below B0 w (w.alloc (.cells #[.int .u8 3, .int .u8 f.what, .bool f.nar, .int .i64 f.d, .int .i64 (a : Int), .int .i64 (b : Int), .int .u64 f.n, .int .i64 f.size, .int .i64 f.to] 40)) := (Below.refl _ _).alloc hB0 _
  have hsz : w.heap.size < (w.alloc (.cells #[.int .u8 3, .int .u8 f.what, .bool f.nar, .int .i64 f.d, .int .i64 (a : Int), .int .i64 (b : Int), .int .u64 f.n, .int .i64 f.size, .int .i64 f.to] 40)).heap.size := by simp
  clear hS
  go_enter Try.func22, Try.ntmps22
  go_wp2_with fail
  generalize w.alloc (.cells #[.int .u8 3, .int .u8 f.what, .bool f.nar, .int .i64 f.d, .int .i64 (a : Int), .int .i64 (b : Int), .int .u64 f.n, .int .i64 f.size, .int .i64 f.to] 40) = W at *
  generalize w.heap.size = X at *
  have e0 := hX.cell 0
  have e1 := hX.cell 1
  have e2 := hX.cell 2
  have e3 := hX.cell 3
  have e4 := hX.cell 4
  have e5 := hX.cell 5
  have e6 := hX.cell 6
  have e7 := hX.cell 7
  have e8 := hX.cell 8
  have cq0 := hW.q.cell 0
  have cq1 := hW.q.cell 1
  simp only [List.getElem?_cons_zero, List.getElem?_cons_succ] at cq0 cq1 e0 e1 e2 e3 e4 e5 e6 e7 e8
  have ca := rreg hW.rb hx
  have cb := rreg hW.rb hy
  have HW := Lib.hid hW
  have HX := Lib.hid hX
  have HBB := Lib.hid hBB
  clear hW hX hBB
  go_still_tail 12, (by kernel_rfl)
  go_wp2_with fail
  have hW := HW.out.keep (Below.refl _ _).drew
  have hX := HX.out.drew
  have hBB := HBB.out.drew
  have hsz' := hsz
  clear e0 e1 e2 e3 e4 e5 e6 e7 e8 cq0 cq1 ca cb
  clear HW HX HBB
  generalize W.drew = W1 at *
  have e0 := hX.cell 0
  have e1 := hX.cell 1
  have e2 := hX.cell 2
  have e3 := hX.cell 3
  have e4 := hX.cell 4
  have e5 := hX.cell 5
  have e6 := hX.cell 6
  have e7 := hX.cell 7
  have e8 := hX.cell 8
  have cq0 := hW.q.cell 0
  have cq1 := hW.q.cell 1
  simp only [List.getElem?_cons_zero, List.getElem?_cons_succ] at cq0 cq1 e0 e1 e2 e3 e4 e5 e6 e7 e8
  have ca := rreg hW.rb hx
  have cb := rreg hW.rb hy
  have HW := Lib.hid hW
  have HX := Lib.hid hX
  have HBB := Lib.hid hBB
  clear hW hX hBB
  go_quiet ((go_at_call 35; exact Calls.quiet_of (rDo_any f.nar f.what x y _ (by omega) (by omega))))
  have hW := HW.out.keep (drewN_below W1 nq)
  have hX := HX.out.drewN nq
  have hBB : Below B0 w (W1.drewN nq) := HBB.out.trans ⟨rfl, rfl, rfl, Nat.le_refl _, fun _ _ => rfl⟩
  clear e0 e1 e2 e3 e4 e5 e6 e7 e8 cq0 cq1 ca cb
  clear HW HX HBB
  generalize W1.drewN nq = W2 at *
  have e0 := hX.cell 0
  have e1 := hX.cell 1
  have e2 := hX.cell 2
  have e3 := hX.cell 3
  have e4 := hX.cell 4
  have e5 := hX.cell 5
  have e6 := hX.cell 6
  have e7 := hX.cell 7
  have e8 := hX.cell 8
  have cq0 := hW.q.cell 0
  have cq1 := hW.q.cell 1
  simp only [List.getElem?_cons_zero, List.getElem?_cons_succ] at cq0 cq1 e0 e1 e2 e3 e4 e5 e6 e7 e8
  have ca := rreg hW.rb hx
  have cb := rreg hW.rb hy
  have HW := Lib.hid hW
  have HX := Lib.hid hX
  have HBB := Lib.hid hBB
  clear hW hX hBB
  have hde := he.out
  go_wp2_with fail
  go_ret2
  exact rst_err HST.out HBB.out HW.out
set_option linter.unusedSimpArgs false in
set_option maxHeartbeats 4000000 in
theorem ro_ask_t (f : Ins) (Q RB B0 g cap a b : Nat) (r st : List Int) (P : Option Addr) (d0 : Nat) (pk : List Int) (pc : Int) (x y : Nat) (w : World) (hS : RAt w B0 Q RB g cap r st) (hB0 : B0 ≤ w.heap.size) (hop : f.op = 8) (ha : Hid (f.a = a)) (hx : r[a]? = some (x : Int)) (hb : Hid (f.b = b)) (hy : r[b]? = some (y : Int)) (hf : InsOk f) (hp0 : 0 ≤ pc) (hp1 : pc ≤ 20000) (he : Hid (IsV f.nar f.what x y = true)) :
    Calls Try.prog 22 #[.pointer (some ⟨Q, 0, none⟩), insA f, .int .i64 pc, .slice P pk.length d0] w (RDid pk f Q RB B0 r st pc w) := by
  have ha' : a < 16 := by have := (List.getElem?_eq_some_iff.1 hx).1; rw [hS.ok.rl] at this; exact this
  obtain ⟨hx0, hx1⟩ := hS.ok.rb (x : Int) (List.mem_of_getElem? hx)
  have ia1 : (0 : Int) ≤ (a : Int) := by omega
  have ia2 : (a : Int) < 16 := by omega
  have hb' : b < 16 := by have := (List.getElem?_eq_some_iff.1 hy).1; rw [hS.ok.rl] at this; exact this
  obtain ⟨hy0, hy1⟩ := hS.ok.rb (y : Int) (List.mem_of_getElem? hy)
  have ib1 : (0 : Int) ≤ (b : Int) := by omega
  have ib2 : (b : Int) < 16 := by omega
  obtain ⟨hn0, hn1⟩ : 0 ≤ f.n ∧ f.n ≤ 18446744073709551615 := ⟨hf.n0, hf.n1⟩
  have HST : Hid (stepP pk f r st (pc + 1) = .go r st f.to false) := Lib.hid (by unfold stepP; simp [hop, ha.out, hx, hb.out, hy, he.out])
  have HOP := Lib.hid hop
  have HF := Lib.hid hf
  unfold insA insV
  rw [hop, ha.out, hb.out]
  clear hop hf
  have hX := Bk.new w 40 [.int .u8 8, .int .u8 f.what, .bool f.nar, .int .i64 f.d, .int .i64 (a : Int), .int .i64 (b : Int), .int .u64 f.n, .int .i64 f.size, .int .i64 f.to]
  have hW := hS.keep ((Below.refl _ _).alloc (Nat.le_refl _) (.cells #[.int .u8 8, .int .u8 f.what, .bool f.nar, .int .i64 f.d, .int .i64 (a : Int), .int .i64 (b : Int), .int .u64 f.n, .int .i64 f.size, .int .i64 f.to] 40))
  have hBB : Below B0 w (w.alloc (.cells #[.int .u8 8, .int .u8 f.what, .bool f.nar, .int .i64 f.d, .int .i64 (a : Int), .int .i64 (b : Int), .int .u64 f.n, .int .i64 f.size, .int .i64 f.to] 40)) := (Below.refl _ _).alloc hB0 _
  have hsz : w.heap.size < (w.alloc (.cells #[.int .u8 8, .int .u8 f.what, .bool f.nar, .int .i64 f.d, .int .i64 (a : Int), .int .i64 (b : Int), .int .u64 f.n, .int .i64 f.size, .int .i64 f.to] 40)).heap.size := by simp
  clear hS
  go_enter Try.func22, Try.ntmps22
  go_wp2_with fail
  generalize w.alloc (.cells #[.int .u8 8, .int .u8 f.what, .bool f.nar, .int .i64 f.d, .int .i64 (a : Int), .int .i64 (b : Int), .int .u64 f.n, .int .i64 f.size, .int .i64 f.to] 40) = W at *
  generalize w.heap.size = X at *
  have e0 := hX.cell 0
  have e1 := hX.cell 1
  have e2 := hX.cell 2
  have e3 := hX.cell 3
  have e4 := hX.cell 4
  have e5 := hX.cell 5
  have e6 := hX.cell 6
  have e7 := hX.cell 7
  have e8 := hX.cell 8
  have cq0 := hW.q.cell 0
  have cq1 := hW.q.cell 1
  simp only [List.getElem?_cons_zero, List.getElem?_cons_succ] at cq0 cq1 e0 e1 e2 e3 e4 e5 e6 e7 e8
  have ca := rreg hW.rb hx
  have cb := rreg hW.rb hy
  have HW := Lib.hid hW
  have HX := Lib.hid hX
  have HBB := Lib.hid hBB
  clear hW hX hBB
  go_still_tail 12, (by kernel_rfl)
  go_wp2_with fail
  have hw0 := HF.out.w0
  have hW := HW.out.keep (Below.refl _ _).drew
  have hX := HX.out.drew
  have hBB := HBB.out.drew
  have hsz' := hsz
  clear e0 e1 e2 e3 e4 e5 e6 e7 e8 cq0 cq1 ca cb
  clear HW HX HBB
  generalize W.drew = W1 at *
  have e0 := hX.cell 0
  have e1 := hX.cell 1
  have e2 := hX.cell 2
  have e3 := hX.cell 3
  have e4 := hX.cell 4
  have e5 := hX.cell 5
  have e6 := hX.cell 6
  have e7 := hX.cell 7
  have e8 := hX.cell 8
  have cq0 := hW.q.cell 0
  have cq1 := hW.q.cell 1
  simp only [List.getElem?_cons_zero, List.getElem?_cons_succ] at cq0 cq1 e0 e1 e2 e3 e4 e5 e6 e7 e8
  have ca := rreg hW.rb hx
  have cb := rreg hW.rb hy
  have HW := Lib.hid hW
  have HX := Lib.hid hX
  have HBB := Lib.hid hBB
  clear hW hX hBB
  go_quiet ((go_at_call 39; exact Calls.quiet_of_same ((rIs_any f.nar f.what x y _ hw0 (by omega) (by omega)).mono (fun _ _ h => ⟨h.1, h.2.symm⟩))))
  have hW := HW.out.keep (drewN_below W1 nq)
  have hX := HX.out.drewN nq
  have hBB : Below B0 w (W1.drewN nq) := HBB.out.trans ⟨rfl, rfl, rfl, Nat.le_refl _, fun _ _ => rfl⟩
  clear e0 e1 e2 e3 e4 e5 e6 e7 e8 cq0 cq1 ca cb
  clear HW HX HBB
  generalize W1.drewN nq = W2 at *
  have e0 := hX.cell 0
  have e1 := hX.cell 1
  have e2 := hX.cell 2
  have e3 := hX.cell 3
  have e4 := hX.cell 4
  have e5 := hX.cell 5
  have e6 := hX.cell 6
  have e7 := hX.cell 7
  have e8 := hX.cell 8
  have cq0 := hW.q.cell 0
  have cq1 := hW.q.cell 1
  simp only [List.getElem?_cons_zero, List.getElem?_cons_succ] at cq0 cq1 e0 e1 e2 e3 e4 e5 e6 e7 e8
  have ca := rreg hW.rb hx
  have cb := rreg hW.rb hy
  have HW := Lib.hid hW
  have HX := Lib.hid hX
  have HBB := Lib.hid hBB
  clear hW hX hBB
  rw [he.out]
  go_wp2_with fail
  go_ret2
  exact rst_ret (Hid.out HST) HBB.out HW.out (by simp)
set_option linter.unusedSimpArgs false in
set_option maxHeartbeats 4000000 in
theorem ro_ask_f (f : Ins) (Q RB B0 g cap a b : Nat) (r st : List Int) (P : Option Addr) (d0 : Nat) (pk : List Int) (pc : Int) (x y : Nat) (w : World) (hS : RAt w B0 Q RB g cap r st) (hB0 : B0 ≤ w.heap.size) (hop : f.op = 8) (ha : Hid (f.a = a)) (hx : r[a]? = some (x : Int)) (hb : Hid (f.b = b)) (hy : r[b]? = some (y : Int)) (hf : InsOk f) (hp0 : 0 ≤ pc) (hp1 : pc ≤ 20000) (he : Hid (IsV f.nar f.what x y = false)) :
    Calls Try.prog 22 #[.pointer (some ⟨Q, 0, none⟩), insA f, .int .i64 pc, .slice P pk.length d0] w (RDid pk f Q RB B0 r st pc w) := by
  have ha' : a < 16 := by have := (List.getElem?_eq_some_iff.1 hx).1; rw [hS.ok.rl] at this; exact this
  obtain ⟨hx0, hx1⟩ := hS.ok.rb (x : Int) (List.mem_of_getElem? hx)
  have ia1 : (0 : Int) ≤ (a : Int) := by omega
  have ia2 : (a : Int) < 16 := by omega
  have hb' : b < 16 := by have := (List.getElem?_eq_some_iff.1 hy).1; rw [hS.ok.rl] at this; exact this
  obtain ⟨hy0, hy1⟩ := hS.ok.rb (y : Int) (List.mem_of_getElem? hy)
  have ib1 : (0 : Int) ≤ (b : Int) := by omega
  have ib2 : (b : Int) < 16 := by omega
  obtain ⟨hn0, hn1⟩ : 0 ≤ f.n ∧ f.n ≤ 18446744073709551615 := ⟨hf.n0, hf.n1⟩
  have HST : Hid (stepP pk f r st (pc + 1) = .go r st (pc + 1) false) := Lib.hid (by unfold stepP; simp [hop, ha.out, hx, hb.out, hy, he.out])
  have HOP := Lib.hid hop
  have HF := Lib.hid hf
  unfold insA insV
  rw [hop, ha.out, hb.out]
  clear hop hf
  have hX := Bk.new w 40 [.int .u8 8, .int .u8 f.what, .bool f.nar, .int .i64 f.d, .int .i64 (a : Int), .int .i64 (b : Int), .int .u64 f.n, .int .i64 f.size, .int .i64 f.to]
  have hW := hS.keep ((Below.refl _ _).alloc (Nat.le_refl _) (.cells #[.int .u8 8, .int .u8 f.what, .bool f.nar, .int .i64 f.d, .int .i64 (a : Int), .int .i64 (b : Int), .int .u64 f.n, .int .i64 f.size, .int .i64 f.to] 40))
  have hBB : Below B0 w (w.alloc (.cells #[.int .u8 8, .int .u8 f.what, .bool f.nar, .int .i64 f.d, .int .i64 (a : Int), .int .i64 (b : Int), .int .u64 f.n, .int .i64 f.size, .int .i64 f.to] 40)) := (Below.refl _ _).alloc hB0 _
  have hsz : w.heap.size < (w.alloc (.cells #[.int .u8 8, .int .u8 f.what, .bool f.nar, .int .i64 f.d, .int .i64 (a : Int), .int .i64 (b : Int), .int .u64 f.n, .int .i64 f.size, .int .i64 f.to] 40)).heap.size := by simp
  clear hS
  go_enter Try.func22, Try.ntmps22
  go_wp2_with fail
  generalize w.alloc (.cells #[.int .u8 8, .int .u8 f.what, .bool f.nar, .int .i64 f.d, .int .i64 (a : Int), .int .i64 (b : Int), .int .u64 f.n, .int .i64 f.size, .int .i64 f.to] 40) = W at *
  generalize w.heap.size = X at *
  have e0 := hX.cell 0
  have e1 := hX.cell 1
  have e2 := hX.cell 2
  have e3 := hX.cell 3
  have e4 := hX.cell 4
  have e5 := hX.cell 5
  have e6 := hX.cell 6
  have e7 := hX.cell 7
  have e8 := hX.cell 8
  have cq0 := hW.q.cell 0
  have cq1 := hW.q.cell 1
  simp only [List.getElem?_cons_zero, List.getElem?_cons_succ] at cq0 cq1 e0 e1 e2 e3 e4 e5 e6 e7 e8
  have ca := rreg hW.rb hx
  have cb := rreg hW.rb hy
  have HW := Lib.hid hW
  have HX := Lib.hid hX
  have HBB := Lib.hid hBB
  clear hW hX hBB
  go_still_tail 12, (by kernel_rfl)
  go_wp2_with fail
  have hw0 := HF.out.w0
  have hW := HW.out.keep (Below.refl _ _).drew
  have hX := HX.out.drew
  have hBB := HBB.out.drew
  have hsz' := hsz
  clear e0 e1 e2 e3 e4 e5 e6 e7 e8 cq0 cq1 ca cb
  clear HW HX HBB
  generalize W.drew = W1 at *
  have e0 := hX.cell 0
  have e1 := hX.cell 1
  have e2 := hX.cell 2
  have e3 := hX.cell 3
  have e4 := hX.cell 4
  have e5 := hX.cell 5
  have e6 := hX.cell 6
  have e7 := hX.cell 7
  have e8 := hX.cell 8
  have cq0 := hW.q.cell 0
  have cq1 := hW.q.cell 1
  simp only [List.getElem?_cons_zero, List.getElem?_cons_succ] at cq0 cq1 e0 e1 e2 e3 e4 e5 e6 e7 e8
  have ca := rreg hW.rb hx
  have cb := rreg hW.rb hy
  have HW := Lib.hid hW
  have HX := Lib.hid hX
  have HBB := Lib.hid hBB
  clear hW hX hBB
  go_quiet ((go_at_call 39; exact Calls.quiet_of_same ((rIs_any f.nar f.what x y _ hw0 (by omega) (by omega)).mono (fun _ _ h => ⟨h.1, h.2.symm⟩))))
  have hW := HW.out.keep (drewN_below W1 nq)
  have hX := HX.out.drewN nq
  have hBB : Below B0 w (W1.drewN nq) := HBB.out.trans ⟨rfl, rfl, rfl, Nat.le_refl _, fun _ _ => rfl⟩
  clear e0 e1 e2 e3 e4 e5 e6 e7 e8 cq0 cq1 ca cb
  clear HW HX HBB
  generalize W1.drewN nq = W2 at *
  have e0 := hX.cell 0
  have e1 := hX.cell 1
  have e2 := hX.cell 2
  have e3 := hX.cell 3
  have e4 := hX.cell 4
  have e5 := hX.cell 5
  have e6 := hX.cell 6
  have e7 := hX.cell 7
  have e8 := hX.cell 8
  have cq0 := hW.q.cell 0
  have cq1 := hW.q.cell 1
  simp only [List.getElem?_cons_zero, List.getElem?_cons_succ] at cq0 cq1 e0 e1 e2 e3 e4 e5 e6 e7 e8
  have ca := rreg hW.rb hx
  have cb := rreg hW.rb hy
  have HW := Lib.hid hW
  have HX := Lib.hid hX
  have HBB := Lib.hid hBB
  clear hW hX hBB
  rw [he.out]
  go_wp2_with fail
  go_ret2
  exact rst_ret (Hid.out HST) HBB.out HW.out (by simp)
end Go.Proofs.Ytbfegghkipoppaa
namespace Go.Proofs.Ytbfegghkipoppaa
open Go.RowKit Go.Shelf
set_option linter.unusedVariables false
set_option maxRecDepth 100000
theorem farP_eq (x n : Int) : IntKind.i64.wrap (IntKind.u64.wrap (x + n)) = farP x n := by unfold farP; exact IntWalk.i64_left _
theorem pl_in (t s : Int) (hs : okSz s = true) (h1 : -512 ≤ t) (h2 : t ≤ -s) : plP t = t + 512 ∧ errOf 512 (t + 512) s = 0 := by
  have := place_size s hs
  exact ⟨by unfold plP; rw [if_neg (by omega)], errOf_0 hs (by omega) (by omega)⟩
theorem pl_out (t s : Int) (hs : okSz s = true) (h : ¬ (-512 ≤ t ∧ t ≤ -s)) : errOf 512 (plP t) s = 112 := by
  have := place_size s hs
  refine errOf_112 hs ?_
  unfold plP
  split <;> omega
theorem plP_range (t : Int) : -512 ≤ plP t ∧ plP t ≤ 512 := by unfold plP; split <;> omega
set_option linter.unusedSimpArgs false in
set_option maxHeartbeats 4000000 in
theorem ro_load (f : Ins) (Q RB B0 g cap d a : Nat) (r st : List Int) (P : Option Addr) (d0 : Nat) (pk : List Int) (pc : Int) (x : Int) (w : World) (hS : RAt w B0 Q RB g cap r st) (hB0 : B0 ≤ w.heap.size) (hop : f.op = 4) (hd : Hid (f.d = d)) (hd' : d < 16) (ha : Hid (f.a = a)) (hx : r[a]? = some (x : Int)) (hf : InsOk f) (hp0 : 0 ≤ pc) (hp1 : pc ≤ 20000) (hP : Rd w B0 P d0 (u8s pk)) (hpb : Bytes pk) (hpl : pk.length ≤ 1000000) (he : Hid (errOf pk.length (farP x f.n) f.size = 0)) :
    Calls Try.prog 22 #[.pointer (some ⟨Q, 0, none⟩), insA f, .int .i64 pc, .slice P pk.length d0] w (RDid pk f Q RB B0 r st pc w) := by
  have id1 : (0 : Int) ≤ (d : Int) := by omega
  have id2 : (d : Int) < 16 := by omega
  have ha' : a < 16 := by have := (List.getElem?_eq_some_iff.1 hx).1; rw [hS.ok.rl] at this; exact this
  obtain ⟨hx0, hx1⟩ := hS.ok.rb (x : Int) (List.mem_of_getElem? hx)
  have ia1 : (0 : Int) ≤ (a : Int) := by omega
  have ia2 : (a : Int) < 16 := by omega
  obtain ⟨hn0, hn1⟩ : 0 ≤ f.n ∧ f.n ≤ 18446744073709551615 := ⟨hf.n0, hf.n1⟩
  have HP := Lib.hid hP
  have HB0 := Lib.hid hB0
  clear hP
  have HST : Hid (stepP pk f r st (pc + 1) = .go (r.set d (getR pk (farP x f.n) f.size)) st (pc + 1) false) := Lib.hid (by unfold stepP; simp [hop, hd.out, ha.out, hx, he.out])
  have HOP := Lib.hid hop
  have HF := Lib.hid hf
  unfold insA insV
  rw [hop, hd.out, ha.out]
  clear hop hf
  have hX := Bk.new w 40 [.int .u8 4, .int .u8 f.what, .bool f.nar, .int .i64 (d : Int), .int .i64 (a : Int), .int .i64 f.b, .int .u64 f.n, .int .i64 f.size, .int .i64 f.to]
  have hW := hS.keep ((Below.refl _ _).alloc (Nat.le_refl _) (.cells #[.int .u8 4, .int .u8 f.what, .bool f.nar, .int .i64 (d : Int), .int .i64 (a : Int), .int .i64 f.b, .int .u64 f.n, .int .i64 f.size, .int .i64 f.to] 40))
  have hBB : Below B0 w (w.alloc (.cells #[.int .u8 4, .int .u8 f.what, .bool f.nar, .int .i64 (d : Int), .int .i64 (a : Int), .int .i64 f.b, .int .u64 f.n, .int .i64 f.size, .int .i64 f.to] 40)) := (Below.refl _ _).alloc hB0 _
  have hsz : w.heap.size < (w.alloc (.cells #[.int .u8 4, .int .u8 f.what, .bool f.nar, .int .i64 (d : Int), .int .i64 (a : Int), .int .i64 f.b, .int .u64 f.n, .int .i64 f.size, .int .i64 f.to] 40)).heap.size := by simp
  clear hS
  go_enter Try.func22, Try.ntmps22
  go_wp2_with fail
  generalize w.alloc (.cells #[.int .u8 4, .int .u8 f.what, .bool f.nar, .int .i64 (d : Int), .int .i64 (a : Int), .int .i64 f.b, .int .u64 f.n, .int .i64 f.size, .int .i64 f.to] 40) = W at *
  generalize w.heap.size = X at *
  have e0 := hX.cell 0
  have e1 := hX.cell 1
  have e2 := hX.cell 2
  have e3 := hX.cell 3
  have e4 := hX.cell 4
  have e5 := hX.cell 5
  have e6 := hX.cell 6
  have e7 := hX.cell 7
  have e8 := hX.cell 8
  have cq0 := hW.q.cell 0
  have cq1 := hW.q.cell 1
  simp only [List.getElem?_cons_zero, List.getElem?_cons_succ] at cq0 cq1 e0 e1 e2 e3 e4 e5 e6 e7 e8
  obtain ⟨z, hz, _, _⟩ := hW.ok.get d hd'
  have ce := rreg hW.rb hz
  have fz := hW.rb.frozen d
  clear hz
  have ca := rreg hW.rb hx
  have HW := Lib.hid hW
  have HX := Lib.hid hX
  have HBB := Lib.hid hBB
  clear hW hX hBB
  go_still_tail 12, (by kernel_rfl)
  go_wp2_with fail
  have hW := HW.out.keep (Below.refl _ _).drew
  have hX := HX.out.drew
  have hBB := HBB.out.drew
  have hsz' : X < W.drew.heap.size := hsz
  clear e0 e1 e2 e3 e4 e5 e6 e7 e8 cq0 cq1 ce fz ca
  clear HW HX HBB
  generalize W.drew = W1 at *
  have e0 := hX.cell 0
  have e1 := hX.cell 1
  have e2 := hX.cell 2
  have e3 := hX.cell 3
  have e4 := hX.cell 4
  have e5 := hX.cell 5
  have e6 := hX.cell 6
  have e7 := hX.cell 7
  have e8 := hX.cell 8
  have cq0 := hW.q.cell 0
  have cq1 := hW.q.cell 1
  simp only [List.getElem?_cons_zero, List.getElem?_cons_succ] at cq0 cq1 e0 e1 e2 e3 e4 e5 e6 e7 e8
  obtain ⟨z, hz, _, _⟩ := hW.ok.get d hd'
  have ce := rreg hW.rb hz
  have fz := hW.rb.frozen d
  clear hz
  have ca := rreg hW.rb hx
  have HW := Lib.hid hW
  have HX := Lib.hid hX
  have HBB := Lib.hid hBB
  clear hW hX hBB
  obtain ⟨hR1, hR2⟩ := far_range x f.n
  obtain ⟨t, ht⟩ : ∃ t, t = farP x f.n := ⟨_, rfl⟩
  have HT := Lib.hid ht
  rw [← ht] at hR1 hR2
  clear ht
  have hPW : Rd W1 W1.heap.size P d0 (u8s pk) := (HP.out.below HBB.out).mono (by have := HB0.out; omega)
  have HPW := Lib.hid hPW
  clear hPW
  go_wp2_with fail
  rw [show wrap64 (IntKind.u64.wrap (x + f.n)) = t from HT.out.symm]
  refine (rget_any P d0 pk t f.size _ HPW.out hpb hpl hR1 hR2).mono ?_
  rintro _ _ ⟨rfl, rfl⟩
  rw [show errOf pk.length t f.size = 0 by rw [HT.out]; exact he.out]
  obtain ⟨hv0, hv1⟩ := getR_range pk t f.size hpb
  go_wp2_with fail
  go_still_tail 8, (by kernel_rfl)
  go_wp2_with fail
  rw [← HT.out] at HST
  go_ret2
  exact rst_ret (Hid.out HST) (HBB.out.setCell HW.out.h2 _).drew ((HW.out.put d (getR pk t f.size) hv0 hv1).keep (Below.refl _ _).drew) (by simp)
set_option linter.unusedSimpArgs false in
set_option maxHeartbeats 4000000 in
theorem ro_load_err (f : Ins) (Q RB B0 g cap a : Nat) (r st : List Int) (P : Option Addr) (d0 : Nat) (pk : List Int) (pc : Int) (x : Int) (w : World) (hS : RAt w B0 Q RB g cap r st) (hB0 : B0 ≤ w.heap.size) (hop : f.op = 4) (ha : Hid (f.a = a)) (hx : r[a]? = some (x : Int)) (hf : InsOk f) (hp0 : 0 ≤ pc) (hp1 : pc ≤ 20000) (hP : Rd w B0 P d0 (u8s pk)) (hpb : Bytes pk) (hpl : pk.length ≤ 1000000) (he : Hid ((errOf pk.length (farP x f.n) f.size != 0) = true)) :
    Calls Try.prog 22 #[.pointer (some ⟨Q, 0, none⟩), insA f, .int .i64 pc, .slice P pk.length d0] w (RDid pk f Q RB B0 r st pc w) := by
  have ha' : a < 16 := by have := (List.getElem?_eq_some_iff.1 hx).1; rw [hS.ok.rl] at this; exact this
  obtain ⟨hx0, hx1⟩ := hS.ok.rb (x : Int) (List.mem_of_getElem? hx)
  have ia1 : (0 : Int) ≤ (a : Int) := by omega
  have ia2 : (a : Int) < 16 := by omega
  obtain ⟨hn0, hn1⟩ : 0 ≤ f.n ∧ f.n ≤ 18446744073709551615 := ⟨hf.n0, hf.n1⟩
  have HP := Lib.hid hP
  have HB0 := Lib.hid hB0
  clear hP
  have hne : ¬ errOf pk.length (farP x f.n) f.size = 0 := by simpa using he.out
  have HST : Hid (stepP pk f r st (pc + 1) = .err (errOf pk.length (farP x f.n) f.size)) := Lib.hid (by unfold stepP; simp [hop, ha.out, hx, hne])
  clear hne
  have HOP := Lib.hid hop
  have HF := Lib.hid hf
  unfold insA insV
  rw [hop, ha.out]
  clear hop hf
  have hX := Bk.new w 40 [.int .u8 4, .int .u8 f.what, .bool f.nar, .int .i64 f.d, .int .i64 (a : Int), .int .i64 f.b, .int .u64 f.n, .int .i64 f.size, .int .i64 f.to]
  have hW := hS.keep ((Below.refl _ _).alloc (Nat.le_refl _) (.cells #[.int .u8 4, .int .u8 f.what, .bool f.nar, .int .i64 f.d, .int .i64 (a : Int), .int .i64 f.b, .int .u64 f.n, .int .i64 f.size, .int .i64 f.to] 40))
  have hBB : Below B0 w (w.alloc (.cells #[.int .u8 4, .int .u8 f.what, .bool f.nar, .int .i64 f.d, .int .i64 (a : Int), .int .i64 f.b, .int .u64 f.n, .int .i64 f.size, .int .i64 f.to] 40)) := (Below.refl _ _).alloc hB0 _
  have hsz : w.heap.size < (w.alloc (.cells #[.int .u8 4, .int .u8 f.what, .bool f.nar, .int .i64 f.d, .int .i64 (a : Int), .int .i64 f.b, .int .u64 f.n, .int .i64 f.size, .int .i64 f.to] 40)).heap.size := by simp
  clear hS
  go_enter Try.func22, Try.ntmps22
  go_wp2_with fail
  generalize w.alloc (.cells #[.int .u8 4, .int .u8 f.what, .bool f.nar, .int .i64 f.d, .int .i64 (a : Int), .int .i64 f.b, .int .u64 f.n, .int .i64 f.size, .int .i64 f.to] 40) = W at *
  generalize w.heap.size = X at *
  have e0 := hX.cell 0
  have e1 := hX.cell 1
  have e2 := hX.cell 2
  have e3 := hX.cell 3
  have e4 := hX.cell 4
  have e5 := hX.cell 5
  have e6 := hX.cell 6
  have e7 := hX.cell 7
  have e8 := hX.cell 8
  have cq0 := hW.q.cell 0
  have cq1 := hW.q.cell 1
  simp only [List.getElem?_cons_zero, List.getElem?_cons_succ] at cq0 cq1 e0 e1 e2 e3 e4 e5 e6 e7 e8
  have ca := rreg hW.rb hx
  have HW := Lib.hid hW
  have HX := Lib.hid hX
  have HBB := Lib.hid hBB
  clear hW hX hBB
  go_still_tail 12, (by kernel_rfl)
  go_wp2_with fail
  have hW := HW.out.keep (Below.refl _ _).drew
  have hX := HX.out.drew
  have hBB := HBB.out.drew
  have hsz' : X < W.drew.heap.size := hsz
  clear e0 e1 e2 e3 e4 e5 e6 e7 e8 cq0 cq1 ca
  clear HW HX HBB
  generalize W.drew = W1 at *
  have e0 := hX.cell 0
  have e1 := hX.cell 1
  have e2 := hX.cell 2
  have e3 := hX.cell 3
  have e4 := hX.cell 4
  have e5 := hX.cell 5
  have e6 := hX.cell 6
  have e7 := hX.cell 7
  have e8 := hX.cell 8
  have cq0 := hW.q.cell 0
  have cq1 := hW.q.cell 1
  simp only [List.getElem?_cons_zero, List.getElem?_cons_succ] at cq0 cq1 e0 e1 e2 e3 e4 e5 e6 e7 e8
  have ca := rreg hW.rb hx
  have HW := Lib.hid hW
  have HX := Lib.hid hX
  have HBB := Lib.hid hBB
  clear hW hX hBB
  obtain ⟨hR1, hR2⟩ := far_range x f.n
  obtain ⟨t, ht⟩ : ∃ t, t = farP x f.n := ⟨_, rfl⟩
  have HT := Lib.hid ht
  rw [← ht] at hR1 hR2
  clear ht
  have hPW : Rd W1 W1.heap.size P d0 (u8s pk) := (HP.out.below HBB.out).mono (by have := HB0.out; omega)
  have HPW := Lib.hid hPW
  clear hPW
  go_wp2_with fail
  rw [show wrap64 (IntKind.u64.wrap (x + f.n)) = t from HT.out.symm]
  refine (rget_any P d0 pk t f.size _ HPW.out hpb hpl hR1 hR2).mono ?_
  rintro _ _ ⟨rfl, rfl⟩
  have hde : (errOf pk.length t f.size != 0) = true := by rw [HT.out]; exact he.out
  go_wp2_with fail
  go_ret2
  rw [← HT.out] at HST
  exact rst_err HST.out HBB.out HW.out
set_option linter.unusedSimpArgs false in
set_option maxHeartbeats 4000000 in
theorem ro_read (f : Ins) (Q RB B0 g cap d a : Nat) (r st : List Int) (P : Option Addr) (d0 : Nat) (pk : List Int) (pc : Int) (x : Int) (w : World) (hS : RAt w B0 Q RB g cap r st) (hB0 : B0 ≤ w.heap.size) (hop : f.op = 5) (hd : Hid (f.d = d)) (hd' : d < 16) (ha : Hid (f.a = a)) (hx : r[a]? = some (x : Int)) (hf : InsOk f) (hp0 : 0 ≤ pc) (hp1 : pc ≤ 20000) (hsz1 : Hid (okSz f.size = true)) (hk : -512 ≤ farP x f.n ∧ farP x f.n ≤ -f.size) :
    Calls Try.prog 22 #[.pointer (some ⟨Q, 0, none⟩), insA f, .int .i64 pc, .slice P pk.length d0] w (RDid pk f Q RB B0 r st pc w) := by
  have id1 : (0 : Int) ≤ (d : Int) := by omega
  have id2 : (d : Int) < 16 := by omega
  have ha' : a < 16 := by have := (List.getElem?_eq_some_iff.1 hx).1; rw [hS.ok.rl] at this; exact this
  obtain ⟨hx0, hx1⟩ := hS.ok.rb (x : Int) (List.mem_of_getElem? hx)
  have ia1 : (0 : Int) ≤ (a : Int) := by omega
  have ia2 : (a : Int) < 16 := by omega
  obtain ⟨hn0, hn1⟩ : 0 ≤ f.n ∧ f.n ≤ 18446744073709551615 := ⟨hf.n0, hf.n1⟩
  have HK := Lib.hid hk
  have HST : Hid (stepP pk f r st (pc + 1) = .go (r.set d (getR st (farP x f.n + 512) f.size)) st (pc + 1) false) := Lib.hid (by unfold stepP; simp [hop, hd.out, ha.out, hx, hk])
  clear hk
  have HOP := Lib.hid hop
  have HF := Lib.hid hf
  unfold insA insV
  rw [hop, hd.out, ha.out]
  clear hop hf
  have hX := Bk.new w 40 [.int .u8 5, .int .u8 f.what, .bool f.nar, .int .i64 (d : Int), .int .i64 (a : Int), .int .i64 f.b, .int .u64 f.n, .int .i64 f.size, .int .i64 f.to]
  have hW := hS.keep ((Below.refl _ _).alloc (Nat.le_refl _) (.cells #[.int .u8 5, .int .u8 f.what, .bool f.nar, .int .i64 (d : Int), .int .i64 (a : Int), .int .i64 f.b, .int .u64 f.n, .int .i64 f.size, .int .i64 f.to] 40))
  have hBB : Below B0 w (w.alloc (.cells #[.int .u8 5, .int .u8 f.what, .bool f.nar, .int .i64 (d : Int), .int .i64 (a : Int), .int .i64 f.b, .int .u64 f.n, .int .i64 f.size, .int .i64 f.to] 40)) := (Below.refl _ _).alloc hB0 _
  have hsz : w.heap.size < (w.alloc (.cells #[.int .u8 5, .int .u8 f.what, .bool f.nar, .int .i64 (d : Int), .int .i64 (a : Int), .int .i64 f.b, .int .u64 f.n, .int .i64 f.size, .int .i64 f.to] 40)).heap.size := by simp
  clear hS
  go_enter Try.func22, Try.ntmps22
  go_wp2_with fail
  generalize w.alloc (.cells #[.int .u8 5, .int .u8 f.what, .bool f.nar, .int .i64 (d : Int), .int .i64 (a : Int), .int .i64 f.b, .int .u64 f.n, .int .i64 f.size, .int .i64 f.to] 40) = W at *
  generalize w.heap.size = X at *
  have e0 := hX.cell 0
  have e1 := hX.cell 1
  have e2 := hX.cell 2
  have e3 := hX.cell 3
  have e4 := hX.cell 4
  have e5 := hX.cell 5
  have e6 := hX.cell 6
  have e7 := hX.cell 7
  have e8 := hX.cell 8
  have cq0 := hW.q.cell 0
  have cq1 := hW.q.cell 1
  simp only [List.getElem?_cons_zero, List.getElem?_cons_succ] at cq0 cq1 e0 e1 e2 e3 e4 e5 e6 e7 e8
  obtain ⟨z, hz, _, _⟩ := hW.ok.get d hd'
  have ce := rreg hW.rb hz
  have fz := hW.rb.frozen d
  clear hz
  have ca := rreg hW.rb hx
  have HW := Lib.hid hW
  have HX := Lib.hid hX
  have HBB := Lib.hid hBB
  clear hW hX hBB
  go_still_tail 12, (by kernel_rfl)
  go_wp2_with fail
  have hW := HW.out.keep (Below.refl _ _).drew
  have hX := HX.out.drew
  have hBB := HBB.out.drew
  have hsz' : X < W.drew.heap.size := hsz
  clear e0 e1 e2 e3 e4 e5 e6 e7 e8 cq0 cq1 ce fz ca
  clear HW HX HBB
  generalize W.drew = W1 at *
  have e0 := hX.cell 0
  have e1 := hX.cell 1
  have e2 := hX.cell 2
  have e3 := hX.cell 3
  have e4 := hX.cell 4
  have e5 := hX.cell 5
  have e6 := hX.cell 6
  have e7 := hX.cell 7
  have e8 := hX.cell 8
  have cq0 := hW.q.cell 0
  have cq1 := hW.q.cell 1
  simp only [List.getElem?_cons_zero, List.getElem?_cons_succ] at cq0 cq1 e0 e1 e2 e3 e4 e5 e6 e7 e8
  obtain ⟨z, hz, _, _⟩ := hW.ok.get d hd'
  have ce := rreg hW.rb hz
  have fz := hW.rb.frozen d
  clear hz
  have ca := rreg hW.rb hx
  have HW := Lib.hid hW
  have HX := Lib.hid hX
  have HBB := Lib.hid hBB
  clear hW hX hBB
  obtain ⟨hR1, hR2⟩ := far_range x f.n
  obtain ⟨t, ht⟩ : ∃ t, t = farP x f.n := ⟨_, rfl⟩
  have HT := Lib.hid ht
  rw [← ht] at hR1 hR2
  clear ht
  have hget := fun n => rget_any (some ⟨g, 0, none⟩) cap st (plP t) f.size (W1.drewN n) (show Rd (W1.drewN n) (W1.drewN n).heap.size (some ⟨g, 0, none⟩) cap (u8s st) from HW.out.sb) HW.out.ok.sb (by rw [HW.out.ok.sl]; omega) (by have := plP_range t; omega) (by have := plP_range t; omega)
  rw [HW.out.ok.sl] at hget
  have HGET := Lib.hid hget
  clear hget
  go_quiet ((first | (go_at_call 37; rw [show IntKind.i64.wrap (IntKind.u64.wrap (x + f.n)) = t from (farP_eq x f.n).trans HT.out.symm]; exact Calls.quiet_of_same (rplace_any t _ hR1 hR2)) | (go_at_call 36; exact Calls.quiet_of_same ((HGET.out _).mono (fun _ _ h => ⟨h.1, h.2.symm⟩)))))
  have hW := HW.out.keep (drewN_below W1 nq)
  have hX := HX.out.drewN nq
  have hBB : Below B0 w (W1.drewN nq) := HBB.out.trans ⟨rfl, rfl, rfl, Nat.le_refl _, fun _ _ => rfl⟩
  clear e0 e1 e2 e3 e4 e5 e6 e7 e8 cq0 cq1 ce fz ca
  clear HW HX HBB
  generalize W1.drewN nq = W2 at *
  have e0 := hX.cell 0
  have e1 := hX.cell 1
  have e2 := hX.cell 2
  have e3 := hX.cell 3
  have e4 := hX.cell 4
  have e5 := hX.cell 5
  have e6 := hX.cell 6
  have e7 := hX.cell 7
  have e8 := hX.cell 8
  have cq0 := hW.q.cell 0
  have cq1 := hW.q.cell 1
  simp only [List.getElem?_cons_zero, List.getElem?_cons_succ] at cq0 cq1 e0 e1 e2 e3 e4 e5 e6 e7 e8
  obtain ⟨z, hz, _, _⟩ := hW.ok.get d hd'
  have ce := rreg hW.rb hz
  have fz := hW.rb.frozen d
  clear hz
  have ca := rreg hW.rb hx
  have HW := Lib.hid hW
  have HX := Lib.hid hX
  have HBB := Lib.hid hBB
  clear hW hX hBB
  obtain ⟨k1, k2⟩ := HK.out
  rw [← HT.out] at k1 k2
  obtain ⟨p1, p2⟩ := pl_in t f.size hsz1.out k1 k2
  rw [p1, p2]
  obtain ⟨hv0, hv1⟩ := getR_range st (t + 512) f.size HW.out.ok.sb
  clear p1 p2 k1 k2
  go_wp2_with fail
  go_still_tail 8, (by kernel_rfl)
  go_wp2_with fail
  rw [← HT.out] at HST
  go_ret2
  exact rst_ret (Hid.out HST) (HBB.out.setCell HW.out.h2 _).drew ((HW.out.put d (getR st (t + 512) f.size) hv0 hv1).keep (Below.refl _ _).drew) (by simp)
set_option linter.unusedSimpArgs false in
set_option maxHeartbeats 4000000 in
theorem ro_read_err (f : Ins) (Q RB B0 g cap a : Nat) (r st : List Int) (P : Option Addr) (d0 : Nat) (pk : List Int) (pc : Int) (x : Int) (w : World) (hS : RAt w B0 Q RB g cap r st) (hB0 : B0 ≤ w.heap.size) (hop : f.op = 5) (ha : Hid (f.a = a)) (hx : r[a]? = some (x : Int)) (hf : InsOk f) (hp0 : 0 ≤ pc) (hp1 : pc ≤ 20000) (hsz1 : Hid (okSz f.size = true)) (hk : ¬ (-512 ≤ farP x f.n ∧ farP x f.n ≤ -f.size)) :
    Calls Try.prog 22 #[.pointer (some ⟨Q, 0, none⟩), insA f, .int .i64 pc, .slice P pk.length d0] w (RDid pk f Q RB B0 r st pc w) := by
  have ha' : a < 16 := by have := (List.getElem?_eq_some_iff.1 hx).1; rw [hS.ok.rl] at this; exact this
  obtain ⟨hx0, hx1⟩ := hS.ok.rb (x : Int) (List.mem_of_getElem? hx)
  have ia1 : (0 : Int) ≤ (a : Int) := by omega
  have ia2 : (a : Int) < 16 := by omega
  obtain ⟨hn0, hn1⟩ : 0 ≤ f.n ∧ f.n ≤ 18446744073709551615 := ⟨hf.n0, hf.n1⟩
  have HK := Lib.hid hk
  have HST : Hid (stepP pk f r st (pc + 1) = .err 112) := Lib.hid (by unfold stepP; simp only [hop, ha.out, Int.toNat_natCast, getD_of hx, if_neg hk]; rfl)
  clear hk
  have HOP := Lib.hid hop
  have HF := Lib.hid hf
  unfold insA insV
  rw [hop, ha.out]
  clear hop hf
  have hX := Bk.new w 40 [.int .u8 5, .int .u8 f.what, .bool f.nar, .int .i64 f.d, .int .i64 (a : Int), .int .i64 f.b, .int .u64 f.n, .int .i64 f.size, .int .i64 f.to]
  have hW := hS.keep ((Below.refl _ _).alloc (Nat.le_refl _) (.cells #[.int .u8 5, .int .u8 f.what, .bool f.nar, .int .i64 f.d, .int .i64 (a : Int), .int .i64 f.b, .int .u64 f.n, .int .i64 f.size, .int .i64 f.to] 40))
  have hBB : Below B0 w (w.alloc (.cells #[.int .u8 5, .int .u8 f.what, .bool f.nar, .int .i64 f.d, .int .i64 (a : Int), .int .i64 f.b, .int .u64 f.n, .int .i64 f.size, .int .i64 f.to] 40)) := (Below.refl _ _).alloc hB0 _
  have hsz : w.heap.size < (w.alloc (.cells #[.int .u8 5, .int .u8 f.what, .bool f.nar, .int .i64 f.d, .int .i64 (a : Int), .int .i64 f.b, .int .u64 f.n, .int .i64 f.size, .int .i64 f.to] 40)).heap.size := by simp
  clear hS
  go_enter Try.func22, Try.ntmps22
  go_wp2_with fail
  generalize w.alloc (.cells #[.int .u8 5, .int .u8 f.what, .bool f.nar, .int .i64 f.d, .int .i64 (a : Int), .int .i64 f.b, .int .u64 f.n, .int .i64 f.size, .int .i64 f.to] 40) = W at *
  generalize w.heap.size = X at *
  have e0 := hX.cell 0
  have e1 := hX.cell 1
  have e2 := hX.cell 2
  have e3 := hX.cell 3
  have e4 := hX.cell 4
  have e5 := hX.cell 5
  have e6 := hX.cell 6
  have e7 := hX.cell 7
  have e8 := hX.cell 8
  have cq0 := hW.q.cell 0
  have cq1 := hW.q.cell 1
  simp only [List.getElem?_cons_zero, List.getElem?_cons_succ] at cq0 cq1 e0 e1 e2 e3 e4 e5 e6 e7 e8
  have ca := rreg hW.rb hx
  have HW := Lib.hid hW
  have HX := Lib.hid hX
  have HBB := Lib.hid hBB
  clear hW hX hBB
  go_still_tail 12, (by kernel_rfl)
  go_wp2_with fail
  have hW := HW.out.keep (Below.refl _ _).drew
  have hX := HX.out.drew
  have hBB := HBB.out.drew
  have hsz' : X < W.drew.heap.size := hsz
  clear e0 e1 e2 e3 e4 e5 e6 e7 e8 cq0 cq1 ca
  clear HW HX HBB
  generalize W.drew = W1 at *
  have e0 := hX.cell 0
  have e1 := hX.cell 1
  have e2 := hX.cell 2
  have e3 := hX.cell 3
  have e4 := hX.cell 4
  have e5 := hX.cell 5
  have e6 := hX.cell 6
  have e7 := hX.cell 7
  have e8 := hX.cell 8
  have cq0 := hW.q.cell 0
  have cq1 := hW.q.cell 1
  simp only [List.getElem?_cons_zero, List.getElem?_cons_succ] at cq0 cq1 e0 e1 e2 e3 e4 e5 e6 e7 e8
  have ca := rreg hW.rb hx
  have HW := Lib.hid hW
  have HX := Lib.hid hX
  have HBB := Lib.hid hBB
  clear hW hX hBB
  obtain ⟨hR1, hR2⟩ := far_range x f.n
  obtain ⟨t, ht⟩ : ∃ t, t = farP x f.n := ⟨_, rfl⟩
  have HT := Lib.hid ht
  rw [← ht] at hR1 hR2
  clear ht
  have hget := fun n => rget_any (some ⟨g, 0, none⟩) cap st (plP t) f.size (W1.drewN n) (show Rd (W1.drewN n) (W1.drewN n).heap.size (some ⟨g, 0, none⟩) cap (u8s st) from HW.out.sb) HW.out.ok.sb (by rw [HW.out.ok.sl]; omega) (by have := plP_range t; omega) (by have := plP_range t; omega)
  rw [HW.out.ok.sl] at hget
  have HGET := Lib.hid hget
  clear hget
  go_quiet ((first | (go_at_call 37; rw [show IntKind.i64.wrap (IntKind.u64.wrap (x + f.n)) = t from (farP_eq x f.n).trans HT.out.symm]; exact Calls.quiet_of_same (rplace_any t _ hR1 hR2)) | (go_at_call 36; exact Calls.quiet_of_same ((HGET.out _).mono (fun _ _ h => ⟨h.1, h.2.symm⟩)))))
  have hW := HW.out.keep (drewN_below W1 nq)
  have hX := HX.out.drewN nq
  have hBB : Below B0 w (W1.drewN nq) := HBB.out.trans ⟨rfl, rfl, rfl, Nat.le_refl _, fun _ _ => rfl⟩
  clear e0 e1 e2 e3 e4 e5 e6 e7 e8 cq0 cq1 ca
  clear HW HX HBB
  generalize W1.drewN nq = W2 at *
  have e0 := hX.cell 0
  have e1 := hX.cell 1
  have e2 := hX.cell 2
  have e3 := hX.cell 3
  have e4 := hX.cell 4
  have e5 := hX.cell 5
  have e6 := hX.cell 6
  have e7 := hX.cell 7
  have e8 := hX.cell 8
  have cq0 := hW.q.cell 0
  have cq1 := hW.q.cell 1
  simp only [List.getElem?_cons_zero, List.getElem?_cons_succ] at cq0 cq1 e0 e1 e2 e3 e4 e5 e6 e7 e8
  have ca := rreg hW.rb hx
  have HW := Lib.hid hW
  have HX := Lib.hid hX
  have HBB := Lib.hid hBB
  clear hW hX hBB
  have hk' := HK.out
  rw [← HT.out] at hk'
  rw [pl_out t f.size hsz1.out hk']
  clear hk'
  go_wp2_with fail
  go_ret2
  exact rst_err HST.out HBB.out HW.out
end Go.Proofs.Ytbfegghkipoppaa
namespace Go.Proofs.Ytbfegghkipoppaa
open Go.RowKit Go.Shelf
set_option linter.unusedVariables false
set_option maxRecDepth 100000
theorem own_rd {w : World} {base g n cap : Nat} {xs : List Value} (h : w.ownsRow base 5 1 (.slice (some ⟨g, 0, none⟩) n cap) n xs) : Rd w w.heap.size (some ⟨g, 0, none⟩) cap xs ∧ base ≤ g ∧ n ≤ cap ∧ g < w.heap.size := by
  rcases h.2 with ⟨h', _⟩ | ⟨g', cap', cur, h', hb, hg, hnc, hcm, hcs, htake⟩
  · simp at h'
  · simp only [Value.slice.injEq, Option.some.injEq, Addr.mk.injEq, and_true, true_and] at h'
    obtain ⟨rfl, rfl⟩ := h'
    have hl := (Array.getElem?_eq_some_iff.1 hg).1
    refine ⟨⟨fun e => (by cases e), fun _ => ⟨_, rfl, hl, fun j u hu => ?_⟩⟩, hb, hnc, hl⟩
    have hc := cell_of_row w g j _ _ _ hg
    rw [show Addr.add ⟨g, 0, none⟩ j = ⟨g, j, none⟩ by unfold Addr.add; split <;> simp_all]
    rw [hc]
    rw [← htake, List.getElem?_take] at hu
    split at hu
    · simpa using hu
    · cases hu
theorem set_same {st : List Int} (h : st.length = 512) (t s v : Int) : setR st t s v = setA st 512 t s v := by unfold setR setA; rw [h]
theorem RAt.stack {w : World} {B0 Q RB g cap g' cap' : Nat} {r st st' : List Int} (h : RAt w B0 Q RB g cap r st) (hr : Rd w w.heap.size (some ⟨g', 0, none⟩) cap' (u8s st')) (hg : B0 ≤ g') (hq : Q < g') (hrb : RB < g') (hc : 512 ≤ cap') (hgl : g' < w.heap.size) (hl : st'.length = 512) (hb : Bytes st') :
    RAt (w.setCell ⟨Q, 1, none⟩ (.slice (some ⟨g', 0, none⟩) 512 cap')) B0 Q RB g' cap' r st' := by
  refine ⟨?_, h.rb.far (Ne.symm h.ne1) _, ⟨hr.1, fun hx => ?_⟩, h.h1, h.h2, hg, h.ne1, by omega, by omega, hc, by simpa [World.setCell] using hgl, ⟨h.ok.rl, hl, h.ok.rb, hb⟩⟩
  · exact h.q.set 1 _
  · obtain ⟨a, e, hb', hc'⟩ := hr.2 hx
    injection e with e
    subst e
    refine ⟨_, rfl, by simpa [World.setCell] using hb', fun j u hu => (World.cell?_of_block ?_).trans (hc' j u hu)⟩
    rw [add_blk]
    exact Below.heap_setCell _ _ _ _ (by simp; omega)
theorem rd_heap {V W : World} {A : Option Addr} {c : Nat} {xs : List Value} (e : V.heap = W.heap) (h : Rd W W.heap.size A c xs) : Rd V V.heap.size A c xs := by
  rw [e]
  exact h.keep (fun p _ => World.cell?_of_block (by rw [e]))
set_option linter.unusedSimpArgs false in
set_option maxHeartbeats 4000000 in
theorem ro_write (f : Ins) (Q RB B0 g cap a b : Nat) (r st : List Int) (P : Option Addr) (d0 : Nat) (pk : List Int) (pc : Int) (x y : Int) (w : World) (hS : RAt w B0 Q RB g cap r st) (hB0 : B0 ≤ w.heap.size) (hop : f.op = 6) (ha : Hid (f.a = a)) (hx : r[a]? = some (x : Int)) (hb : Hid (f.b = b)) (hy : r[b]? = some (y : Int)) (hf : InsOk f) (hp0 : 0 ≤ pc) (hp1 : pc ≤ 20000) (hsz1 : Hid (okSz f.size = true)) (hk : -512 ≤ farP x f.n ∧ farP x f.n ≤ -f.size) :
    Calls Try.prog 22 #[.pointer (some ⟨Q, 0, none⟩), insA f, .int .i64 pc, .slice P pk.length d0] w (RDid pk f Q RB B0 r st pc w) := by
  have ha' : a < 16 := by have := (List.getElem?_eq_some_iff.1 hx).1; rw [hS.ok.rl] at this; exact this
  obtain ⟨hx0, hx1⟩ := hS.ok.rb (x : Int) (List.mem_of_getElem? hx)
  have ia1 : (0 : Int) ≤ (a : Int) := by omega
  have ia2 : (a : Int) < 16 := by omega
  have hb' : b < 16 := by have := (List.getElem?_eq_some_iff.1 hy).1; rw [hS.ok.rl] at this; exact this
  obtain ⟨hy0, hy1⟩ := hS.ok.rb (y : Int) (List.mem_of_getElem? hy)
  have ib1 : (0 : Int) ≤ (b : Int) := by omega
  have ib2 : (b : Int) < 16 := by omega
  obtain ⟨hn0, hn1⟩ : 0 ≤ f.n ∧ f.n ≤ 18446744073709551615 := ⟨hf.n0, hf.n1⟩
  have HB0 := Lib.hid hB0
  have HK := Lib.hid hk
  have HST : Hid (stepP pk f r st (pc + 1) = .go r (setA st 512 (farP x f.n + 512) f.size y) (pc + 1) false) := Lib.hid (by unfold stepP; simp [hop, ha.out, hx, hb.out, hy, hk])
  clear hk
  have HOP := Lib.hid hop
  have HF := Lib.hid hf
  unfold insA insV
  rw [hop, ha.out, hb.out]
  clear hop hf
  have hX := Bk.new w 40 [.int .u8 6, .int .u8 f.what, .bool f.nar, .int .i64 f.d, .int .i64 (a : Int), .int .i64 (b : Int), .int .u64 f.n, .int .i64 f.size, .int .i64 f.to]
  have hW := hS.keep ((Below.refl _ _).alloc (Nat.le_refl _) (.cells #[.int .u8 6, .int .u8 f.what, .bool f.nar, .int .i64 f.d, .int .i64 (a : Int), .int .i64 (b : Int), .int .u64 f.n, .int .i64 f.size, .int .i64 f.to] 40))
  have hBB : Below B0 w (w.alloc (.cells #[.int .u8 6, .int .u8 f.what, .bool f.nar, .int .i64 f.d, .int .i64 (a : Int), .int .i64 (b : Int), .int .u64 f.n, .int .i64 f.size, .int .i64 f.to] 40)) := (Below.refl _ _).alloc hB0 _
  have hsz : w.heap.size < (w.alloc (.cells #[.int .u8 6, .int .u8 f.what, .bool f.nar, .int .i64 f.d, .int .i64 (a : Int), .int .i64 (b : Int), .int .u64 f.n, .int .i64 f.size, .int .i64 f.to] 40)).heap.size := by simp
  clear hS
  go_enter Try.func22, Try.ntmps22
  go_wp2_with fail
  generalize w.alloc (.cells #[.int .u8 6, .int .u8 f.what, .bool f.nar, .int .i64 f.d, .int .i64 (a : Int), .int .i64 (b : Int), .int .u64 f.n, .int .i64 f.size, .int .i64 f.to] 40) = W at *
  generalize w.heap.size = X at *
  have e0 := hX.cell 0
  have e1 := hX.cell 1
  have e2 := hX.cell 2
  have e3 := hX.cell 3
  have e4 := hX.cell 4
  have e5 := hX.cell 5
  have e6 := hX.cell 6
  have e7 := hX.cell 7
  have e8 := hX.cell 8
  have cq0 := hW.q.cell 0
  have cq1 := hW.q.cell 1
  simp only [List.getElem?_cons_zero, List.getElem?_cons_succ] at cq0 cq1 e0 e1 e2 e3 e4 e5 e6 e7 e8
  have ca := rreg hW.rb hx
  have cb := rreg hW.rb hy
  have HW := Lib.hid hW
  have HX := Lib.hid hX
  have HBB := Lib.hid hBB
  clear hW hX hBB
  go_still_tail 12, (by kernel_rfl)
  go_wp2_with fail
  have hW := HW.out.keep (Below.refl _ _).drew
  have hX := HX.out.drew
  have hBB := HBB.out.drew
  have hsz' : X < W.drew.heap.size := hsz
  clear e0 e1 e2 e3 e4 e5 e6 e7 e8 cq0 cq1 ca cb
  clear HW HX HBB
  generalize W.drew = W1 at *
  have e0 := hX.cell 0
  have e1 := hX.cell 1
  have e2 := hX.cell 2
  have e3 := hX.cell 3
  have e4 := hX.cell 4
  have e5 := hX.cell 5
  have e6 := hX.cell 6
  have e7 := hX.cell 7
  have e8 := hX.cell 8
  have cq0 := hW.q.cell 0
  have cq1 := hW.q.cell 1
  simp only [List.getElem?_cons_zero, List.getElem?_cons_succ] at cq0 cq1 e0 e1 e2 e3 e4 e5 e6 e7 e8
  have ca := rreg hW.rb hx
  have cb := rreg hW.rb hy
  have HW := Lib.hid hW
  have HX := Lib.hid hX
  have HBB := Lib.hid hBB
  clear hW hX hBB
  obtain ⟨hR1, hR2⟩ := far_range x f.n
  obtain ⟨t, ht⟩ : ∃ t, t = farP x f.n := ⟨_, rfl⟩
  have HT := Lib.hid ht
  rw [← ht] at hR1 hR2
  clear ht
  have hset := fun (V : World) (hV : V.heap = W1.heap) => rset_any (some ⟨g, 0, none⟩) cap st (plP t) f.size y V (rd_heap hV HW.out.sb) (by rw [HW.out.ok.sl]; omega) (by have := plP_range t; omega) (by have := plP_range t; omega) hy0 hy1
  rw [HW.out.ok.sl] at hset
  have HSET := Lib.hid hset
  clear hset
  have lq := HW.out.q.lt
  have lr := HW.out.rb.lt
  go_region_held3 (fun w' => w'.cell? ⟨X, 5, none⟩ = some (.int .i64 b) ∧ w'.cell? ⟨X, 7, none⟩ = some (.int .i64 f.size) ∧ w'.cell? ⟨Q, 0, none⟩ = some (.slice (some ⟨RB, 0, none⟩) 16 16) ∧ w'.cell? ⟨Q, 1, none⟩ = some (.slice (some ⟨g, 0, none⟩) 512 cap) ∧ w'.cell? ⟨RB, b, none⟩ = some (.int .u64 y)) (go_keep)
    (first | (go_at_call 37; rw [show IntKind.i64.wrap (IntKind.u64.wrap (x + f.n)) = t from (farP_eq x f.n).trans HT.out.symm]; refine (rplace_any t _ hR1 hR2).mono ?_; rintro _ _ ⟨rfl, rfl⟩) | (go_at_call 38; refine (HSET.out _ (by rfl)).mono ?_; rintro _ W2 ⟨g', cap', rfl, hown, hb2⟩; have hc2 : ∀ b o, b < W1.heap.size → W2.cell? ⟨b, o, none⟩ = W1.cell? ⟨b, o, none⟩ := (fun b o h => hb2.cell (p := ⟨b, o, none⟩) h)))
  obtain ⟨hr2, hg2, hc2', hl2⟩ := own_rd hown
  have HR2 := Lib.hid hr2
  have hb2' : Below W1.heap.size W1 W2 := (Below.refl _ W1).drew.trans hb2
  have hW2 := HW.out.keep (w' := W2) hb2'
  have hBB2 : Below B0 w W2 := HBB.out.trans (hb2'.mono (by have := HBB.out.size; have := hsz'; have := HB0.out; show B0 ≤ W1.heap.size; omega))
  have hg2' : W1.heap.size ≤ g' := hg2
  have cq1' := hW2.q.cell 1
  have fq1 := hW2.q.frozen 1
  simp only [List.getElem?_cons_zero, List.getElem?_cons_succ] at cq1'
  have HW2 := Lib.hid hW2
  have HBB2 := Lib.hid hBB2
  clear hr2 hg2 hown hb2 hb2' hW2 hBB2 hc2
  obtain ⟨k1, k2⟩ := HK.out
  rw [← HT.out] at k1 k2
  obtain ⟨p1, p2⟩ := pl_in t f.size hsz1.out k1 k2
  rw [p1, p2]
  have HP1 := Lib.hid p1
  clear p1 p2 k1 k2
  go_wp2_with fail
  go_ret2
  have hr := HR2.out
  rw [set_same HW2.out.ok.sl, HP1.out] at hr
  rw [← HT.out] at HST
  exact rst_ret HST.out (HBB2.out.setCell HW2.out.h1 _) (HW2.out.stack hr (by have := HB0.out; omega) (by omega) (by omega) hc2' hl2 (by rw [setA_len]; exact HW2.out.ok.sl) (setA_bytes _ _ _ _ _ HW2.out.ok.sb)) (by simp)
set_option linter.unusedSimpArgs false in
set_option maxHeartbeats 4000000 in
theorem ro_write_err (f : Ins) (Q RB B0 g cap a b : Nat) (r st : List Int) (P : Option Addr) (d0 : Nat) (pk : List Int) (pc : Int) (x y : Int) (w : World) (hS : RAt w B0 Q RB g cap r st) (hB0 : B0 ≤ w.heap.size) (hop : f.op = 6) (ha : Hid (f.a = a)) (hx : r[a]? = some (x : Int)) (hb : Hid (f.b = b)) (hy : r[b]? = some (y : Int)) (hf : InsOk f) (hp0 : 0 ≤ pc) (hp1 : pc ≤ 20000) (hsz1 : Hid (okSz f.size = true)) (hk : ¬ (-512 ≤ farP x f.n ∧ farP x f.n ≤ -f.size)) :
    Calls Try.prog 22 #[.pointer (some ⟨Q, 0, none⟩), insA f, .int .i64 pc, .slice P pk.length d0] w (RDid pk f Q RB B0 r st pc w) := by
  have ha' : a < 16 := by have := (List.getElem?_eq_some_iff.1 hx).1; rw [hS.ok.rl] at this; exact this
  obtain ⟨hx0, hx1⟩ := hS.ok.rb (x : Int) (List.mem_of_getElem? hx)
  have ia1 : (0 : Int) ≤ (a : Int) := by omega
  have ia2 : (a : Int) < 16 := by omega
  have hb' : b < 16 := by have := (List.getElem?_eq_some_iff.1 hy).1; rw [hS.ok.rl] at this; exact this
  obtain ⟨hy0, hy1⟩ := hS.ok.rb (y : Int) (List.mem_of_getElem? hy)
  have ib1 : (0 : Int) ≤ (b : Int) := by omega
  have ib2 : (b : Int) < 16 := by omega
  obtain ⟨hn0, hn1⟩ : 0 ≤ f.n ∧ f.n ≤ 18446744073709551615 := ⟨hf.n0, hf.n1⟩
  have HB0 := Lib.hid hB0
  have HK := Lib.hid hk
  have HST : Hid (stepP pk f r st (pc + 1) = .err 112) := Lib.hid (by unfold stepP; simp only [hop, ha.out, Int.toNat_natCast, getD_of hx, if_neg hk]; rfl)
  clear hk
  have HOP := Lib.hid hop
  have HF := Lib.hid hf
  unfold insA insV
  rw [hop, ha.out, hb.out]
  clear hop hf
  have hX := Bk.new w 40 [.int .u8 6, .int .u8 f.what, .bool f.nar, .int .i64 f.d, .int .i64 (a : Int), .int .i64 (b : Int), .int .u64 f.n, .int .i64 f.size, .int .i64 f.to]
  have hW := hS.keep ((Below.refl _ _).alloc (Nat.le_refl _) (.cells #[.int .u8 6, .int .u8 f.what, .bool f.nar, .int .i64 f.d, .int .i64 (a : Int), .int .i64 (b : Int), .int .u64 f.n, .int .i64 f.size, .int .i64 f.to] 40))
  have hBB : Below B0 w (w.alloc (.cells #[.int .u8 6, .int .u8 f.what, .bool f.nar, .int .i64 f.d, .int .i64 (a : Int), .int .i64 (b : Int), .int .u64 f.n, .int .i64 f.size, .int .i64 f.to] 40)) := (Below.refl _ _).alloc hB0 _
  have hsz : w.heap.size < (w.alloc (.cells #[.int .u8 6, .int .u8 f.what, .bool f.nar, .int .i64 f.d, .int .i64 (a : Int), .int .i64 (b : Int), .int .u64 f.n, .int .i64 f.size, .int .i64 f.to] 40)).heap.size := by simp
  clear hS
  go_enter Try.func22, Try.ntmps22
  go_wp2_with fail
  generalize w.alloc (.cells #[.int .u8 6, .int .u8 f.what, .bool f.nar, .int .i64 f.d, .int .i64 (a : Int), .int .i64 (b : Int), .int .u64 f.n, .int .i64 f.size, .int .i64 f.to] 40) = W at *
  generalize w.heap.size = X at *
  have e0 := hX.cell 0
  have e1 := hX.cell 1
  have e2 := hX.cell 2
  have e3 := hX.cell 3
  have e4 := hX.cell 4
  have e5 := hX.cell 5
  have e6 := hX.cell 6
  have e7 := hX.cell 7
  have e8 := hX.cell 8
  have cq0 := hW.q.cell 0
  have cq1 := hW.q.cell 1
  simp only [List.getElem?_cons_zero, List.getElem?_cons_succ] at cq0 cq1 e0 e1 e2 e3 e4 e5 e6 e7 e8
  have ca := rreg hW.rb hx
  have cb := rreg hW.rb hy
  have HW := Lib.hid hW
  have HX := Lib.hid hX
  have HBB := Lib.hid hBB
  clear hW hX hBB
  go_still_tail 12, (by kernel_rfl)
  go_wp2_with fail
  have hW := HW.out.keep (Below.refl _ _).drew
  have hX := HX.out.drew
  have hBB := HBB.out.drew
  have hsz' : X < W.drew.heap.size := hsz
  clear e0 e1 e2 e3 e4 e5 e6 e7 e8 cq0 cq1 ca cb
  clear HW HX HBB
  generalize W.drew = W1 at *
  have e0 := hX.cell 0
  have e1 := hX.cell 1
  have e2 := hX.cell 2
  have e3 := hX.cell 3
  have e4 := hX.cell 4
  have e5 := hX.cell 5
  have e6 := hX.cell 6
  have e7 := hX.cell 7
  have e8 := hX.cell 8
  have cq0 := hW.q.cell 0
  have cq1 := hW.q.cell 1
  simp only [List.getElem?_cons_zero, List.getElem?_cons_succ] at cq0 cq1 e0 e1 e2 e3 e4 e5 e6 e7 e8
  have ca := rreg hW.rb hx
  have cb := rreg hW.rb hy
  have HW := Lib.hid hW
  have HX := Lib.hid hX
  have HBB := Lib.hid hBB
  clear hW hX hBB
  obtain ⟨hR1, hR2⟩ := far_range x f.n
  obtain ⟨t, ht⟩ : ∃ t, t = farP x f.n := ⟨_, rfl⟩
  have HT := Lib.hid ht
  rw [← ht] at hR1 hR2
  clear ht
  have hset := fun (V : World) (hV : V.heap = W1.heap) => rset_any (some ⟨g, 0, none⟩) cap st (plP t) f.size y V (rd_heap hV HW.out.sb) (by rw [HW.out.ok.sl]; omega) (by have := plP_range t; omega) (by have := plP_range t; omega) hy0 hy1
  rw [HW.out.ok.sl] at hset
  have HSET := Lib.hid hset
  clear hset
  have lq := HW.out.q.lt
  have lr := HW.out.rb.lt
  go_region_held3 (fun w' => w'.cell? ⟨X, 5, none⟩ = some (.int .i64 b) ∧ w'.cell? ⟨X, 7, none⟩ = some (.int .i64 f.size) ∧ w'.cell? ⟨Q, 0, none⟩ = some (.slice (some ⟨RB, 0, none⟩) 16 16) ∧ w'.cell? ⟨Q, 1, none⟩ = some (.slice (some ⟨g, 0, none⟩) 512 cap) ∧ w'.cell? ⟨RB, b, none⟩ = some (.int .u64 y)) (go_keep)
    (first | (go_at_call 37; rw [show IntKind.i64.wrap (IntKind.u64.wrap (x + f.n)) = t from (farP_eq x f.n).trans HT.out.symm]; refine (rplace_any t _ hR1 hR2).mono ?_; rintro _ _ ⟨rfl, rfl⟩) | (go_at_call 38; refine (HSET.out _ (by rfl)).mono ?_; rintro _ W2 ⟨g', cap', rfl, hown, hb2⟩; have hc2 : ∀ b o, b < W1.heap.size → W2.cell? ⟨b, o, none⟩ = W1.cell? ⟨b, o, none⟩ := (fun b o h => hb2.cell (p := ⟨b, o, none⟩) h)))
  obtain ⟨hr2, hg2, hc2', hl2⟩ := own_rd hown
  have HR2 := Lib.hid hr2
  have hb2' : Below W1.heap.size W1 W2 := (Below.refl _ W1).drew.trans hb2
  have hW2 := HW.out.keep (w' := W2) hb2'
  have hBB2 : Below B0 w W2 := HBB.out.trans (hb2'.mono (by have := HBB.out.size; have := hsz'; have := HB0.out; show B0 ≤ W1.heap.size; omega))
  have hg2' : W1.heap.size ≤ g' := hg2
  have cq1' := hW2.q.cell 1
  have fq1 := hW2.q.frozen 1
  simp only [List.getElem?_cons_zero, List.getElem?_cons_succ] at cq1'
  have HW2 := Lib.hid hW2
  have HBB2 := Lib.hid hBB2
  clear hr2 hg2 hown hb2 hb2' hW2 hBB2 hc2
  have hk' := HK.out
  rw [← HT.out] at hk'
  rw [pl_out t f.size hsz1.out hk']
  clear hk'
  go_wp2_with fail
  go_ret2
  exact rst_err HST.out HBB2.out HW2.out
end Go.Proofs.Ytbfegghkipoppaa
