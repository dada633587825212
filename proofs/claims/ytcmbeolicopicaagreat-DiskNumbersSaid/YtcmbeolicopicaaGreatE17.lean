/- disk: both disks side by side. -/
import Derived.Test.YtcmbeolicopicaaGreatE16
import Derived.Test.YtcmbeolicopicaaGreatZ12
namespace Go.Proofs.YtcmbeolicopicaaGreat
open Go.RowKit Go.Maps Go.ChangeMaps
set_option linter.unusedVariables false
set_option linter.unusedSectionVars false
set_option linter.unusedSimpArgs false
set_option maxRecDepth 100000

/-- The program's disk D (files L), the document's X (files L2), in blocks of B and BR; none of F is theirs. -/
structure PrB (B BR F : Nat → Prop) (D X : Nat) (room : Int) (L L2 : List FE) (n : Nat) (w : World) : Prop where
  db : DB B D room L n w
  rd : RDB BR X room L2 n w
  sep : ∀ j, BR j → ¬ B j
  b0 : ∀ j, B j → ¬ F j
  r0 : ∀ j, BR j → ¬ F j
  flt : ∀ j, F j → j < w.heap.size
def Pr (F : Nat → Prop) (D X : Nat) (room : Int) (L L2 : List FE) (n : Nat) (w : World) : Prop := ∃ B BR, PrB B BR F D X room L L2 n w
/-- Both disks, in blocks of K. -/
def PIn (K : Nat → Prop) (D X : Nat) (room : Int) (L : List FE) (n : Nat) (w : World) : Prop := ∃ B BR, DB B D room L n w ∧ RDB BR X room L n w ∧ (∀ j, BR j → ¬ B j) ∧ (∀ j, B j → K j) ∧ (∀ j, BR j → K j)
theorem PIn.ag {K : Nat → Prop} {D X n : Nat} {room : Int} {L : List FE} {w w' : World} (h : PIn K D X room L n w) (ha : Ag K w w') : PIn K D X room L n w' := by
  obtain ⟨B, BR, h1, h2, h3, h4, h5⟩ := h
  exact ⟨B, BR, h1.keep (fun j q => ha.block j (h1.lt q) (h4 j q)) ha.size, h2.keep (fun j q => ha.block j (h2.lt q) (h5 j q)) ha.size, h3, h4, h5⟩
theorem PIn.wide {K K' : Nat → Prop} {D X n : Nat} {room : Int} {L : List FE} {w : World} (h : PIn K D X room L n w) (hk : ∀ j, j < w.heap.size → K j → K' j) : PIn K' D X room L n w := by
  obtain ⟨B, BR, h1, h2, h3, h4, h5⟩ := h
  exact ⟨B, BR, h1, h2, h3, fun j q => hk j (h1.lt q) (h4 j q), fun j q => hk j (h2.lt q) (h5 j q)⟩
section
variable {F : Nat → Prop} {D X n : Nat} {room : Int} {L L2 : List FE} {w w' : World}
theorem Pr.flt (h : Pr F D X room L L2 n w) : ∀ j, F j → j < w.heap.size := by
  obtain ⟨B, BR, h⟩ := h
  exact h.flt
theorem Pr.plain (h : Pr F D X room L L2 n w) : L.length ≤ n ∧ n ≤ 1000000 ∧ Srt L ∧ ∀ f ∈ L, f.l.length ≤ 8388608 ∧ f.n ≤ f.l.length ∧ f.s.length ≤ 24 := by
  obtain ⟨B, BR, h⟩ := h
  exact h.db.plain
theorem Pr.did {B BR : Nat → Prop} {L' : List FE} {n' : Nat} (h : PrB B BR F D X room L L2 n w) (hd : DDid B D room L' n' w w') (hn : n ≤ n') : Pr F D X room L' L2 n' w' ∧ Ag F w w' := by
  obtain ⟨B', h1, h2, h3⟩ := hd
  have hlt : ∀ j, BR j → j < w.heap.size := fun j q => h.rd.lt q
  obtain ⟨P, v, q1, q2⟩ := h.rd.keep (fun j q => h3.block j (hlt j q) (h.sep j q)) h3.size
  refine ⟨⟨B', BR, h2, ⟨P, v, q1.mono hn h2.plain.2.1, q2⟩, fun j q q' => ?_, fun j q q' => ?_, h.r0, fun j q => Nat.lt_of_lt_of_le (h.flt j q) h3.size⟩, h3.ag h.b0⟩
  · rcases h1 j q' with q' | q'
    · exact h.sep j q q'
    · have := hlt j q; omega
  · rcases h1 j q with q | q
    · exact h.b0 j q q'
    · have := h.flt j q'; omega
theorem Pr.rdid {B BR : Nat → Prop} {L' : List FE} {m : Nat} (h : PrB B BR F D X room L L2 n w) (hd : RDid BR X room L' m w w') (hm : L'.length ≤ n) : Pr F D X room L L' n w' ∧ Ag F w w' := by
  obtain ⟨B', h1, h2, h3⟩ := hd
  have hlt : ∀ j, B j → j < w.heap.size := fun j q => h.db.lt q
  have hdb := h.db.keep (fun j q => h3.block j (hlt j q) (fun q' => h.sep j q' q)) h3.size
  refine ⟨⟨B, B', hdb, h2.tight hm hdb.plain.2.1, fun j q q' => ?_, h.b0, fun j q q' => ?_, fun j q => Nat.lt_of_lt_of_le (h.flt j q) h3.size⟩, h3.ag h.r0⟩
  · rcases h1 j q with q | q
    · exact h.sep j q q'
    · have := hlt j q'; omega
  · rcases h1 j q with q | q
    · exact h.r0 j q q'
    · have := h.flt j q'; omega
/-- Memory that was made behind it is none of theirs. -/
theorem Pr.guard {F' : Nat → Prop} (h : Pr F D X room L L2 n w) (hb : Below w.heap.size w w') (hF : ∀ j, F' j → F j ∨ (w.heap.size ≤ j ∧ j < w'.heap.size)) : Pr F' D X room L L2 n w' := by
  obtain ⟨B, BR, h⟩ := h
  have hold : ∀ j, F' j → j < w.heap.size → F j := fun j q j1 => (hF j q).elim id (fun q => by omega)
  exact ⟨B, BR, h.db.below hb, h.rd.below hb, h.sep, fun j q q' => h.b0 j q (hold j q' (h.db.lt q)), fun j q q' => h.r0 j q (hold j q' (h.rd.lt q)), fun j q => (hF j q).elim (fun q => Nat.lt_of_lt_of_le (h.flt j q) hb.size) (fun q => q.2)⟩
theorem Pr.below (h : Pr F D X room L L2 n w) (hb : Below w.heap.size w w') : Pr F D X room L L2 n w' := h.guard hb (fun _ q => .inl q)
/-- Others' memory was turned. -/
theorem Pr.other (h : Pr F D X room L L2 n w) (hs : w.heap.size ≤ w'.heap.size) (hk : ∀ j, j < w.heap.size → ¬ F j → w'.heap[j]? = w.heap[j]?) : Pr F D X room L L2 n w' := by
  obtain ⟨B, BR, h⟩ := h
  exact ⟨B, BR, h.db.keep (fun j q => hk j (h.db.lt q) (h.b0 j q)) hs, h.rd.keep (fun j q => hk j (h.rd.lt q) (h.r0 j q)) hs, h.sep, h.b0, h.r0, fun j q => Nat.lt_of_lt_of_le (h.flt j q) hs⟩
/-- What an operation ends with. -/
def OpE (F : Nat → Prop) (D X : Nat) (room : Int) (L L2 : List FE) (n : Nat) (E : Ending) (w : World) (e : Ending) (w' : World) : Prop := e = E ∧ Pr F D X room L L2 n w' ∧ Ag F w w'
end
section
variable {F : Nat → Prop} {D X n : Nat} {room : Int} {L L2 : List FE} {w : World} (h : Pr F D X room L L2 n w) (s : Nm) (hs : s.length ≤ 1000000)
include h hs
theorem pr_sync : Calls Tryz.prog 18 #[.pointer (some ⟨D, 0, none⟩), nmV s] w (OpE F D X room (synL L s) L2 n (.returned (.int .i64 (synE L s))) w) := by
  obtain ⟨B, BR, h⟩ := h
  exact (op_sync h.db s hs).mono fun e w' q => ⟨q.1, Pr.did h q.2 (Nat.le_refl _)⟩
theorem pr_cut (m : Int) : Calls Tryz.prog 27 #[.pointer (some ⟨D, 0, none⟩), nmV s, .int .i64 m] w (OpE F D X room (cutL L s m) L2 n (.returned (.int .i64 (cutE L s m))) w) := by
  obtain ⟨B, BR, h⟩ := h
  exact (op_cut h.db s hs m).mono fun e w' q => ⟨q.1, Pr.did h q.2 (Nat.le_refl _)⟩
theorem pr_remove : Calls Tryz.prog 31 #[.pointer (some ⟨D, 0, none⟩), nmV s] w (OpE F D X room (delF L s) L2 n (.returned (.int .i64 (remE L s))) w) := by
  obtain ⟨B, BR, h⟩ := h
  obtain ⟨st, hst⟩ := h.db
  exact (op_remove hst s hs).mono fun e w' q => ⟨q.1, Pr.did h q.2 (Nat.le_refl _)⟩
theorem pr_rename (t : Nm) (ht : t.length ≤ 1000000) : Calls Tryz.prog 29 #[.pointer (some ⟨D, 0, none⟩), nmV s, nmV t] w (OpE F D X room (renL L s t) L2 n (.returned (.int .i64 (renE L s t))) w) := by
  obtain ⟨B, BR, h⟩ := h
  exact (op_rename h.db s t hs ht).mono fun e w' q => ⟨q.1, Pr.did h q.2 (Nat.le_refl _)⟩
theorem pr_append {K : Nat → Prop} (A : Option Addr) (c : Nat) (l : List Int) (hr : Rd w K A c (u8s l)) (hK : ∀ b, K b → b < w.heap.size) (hl : l.length ≤ 8388609) (hn : n + 1 ≤ 1000000) : Calls Tryz.prog 16 #[.pointer (some ⟨D, 0, none⟩), nmV s, .slice A l.length c] w (OpE F D X room (appL room L s l) L2 (n + 1) (.returned (.int .i64 (appE room L s l))) w) := by
  obtain ⟨B, BR, h⟩ := h
  exact (op_append h.db s hs hr hK hl hn).mono fun e w' q => ⟨q.1, Pr.did h q.2 (Nat.le_succ n)⟩
theorem pr_read : Calls Tryz.prog 8 #[.pointer (some ⟨D, 0, none⟩), nmV s] w fun e w' => ∃ A c, e = .returned (.tuple #[.slice A (oldF L s).length c, .int .i64 (synE L s)]) ∧ Dat w' (fun b => w.heap.size ≤ b) A c (oldF L s) ∧ Below w.heap.size w w' := by
  obtain ⟨B, BR, h⟩ := h
  exact op_read h.db s hs
theorem pr_rrename (t : Nm) (ht : t.length ≤ 1000000) (hm : (renL L2 s t).length ≤ n) (hn : n + 1 ≤ 1000000) : Calls Tryz.prog 30 #[.pointer (some ⟨X, 0, none⟩), nmV s, nmV t] w (OpE F D X room L (renL L2 s t) n (.returned (.int .i64 (renE L2 s t))) w) := by
  obtain ⟨B, BR, h⟩ := h
  exact (rop_rename h.rd s t hs ht hn).mono fun e w' q => ⟨q.1, Pr.rdid h q.2 hm⟩
theorem pr_rappend {K : Nat → Prop} (A : Option Addr) (c : Nat) (l : List Int) (hr : Rd w K A c (u8s l)) (hK : ∀ b, K b → b < w.heap.size) (hl : l.length ≤ 8388609) (hm : (appL room L2 s l).length ≤ n) (hn : n + 1 ≤ 1000000) : Calls Tryz.prog 35 #[.pointer (some ⟨X, 0, none⟩), nmV s, .slice A l.length c] w (OpE F D X room L (appL room L2 s l) n (.returned (.int .i64 (appE room L2 s l))) w) := by
  obtain ⟨B, BR, h⟩ := h
  exact (rop_append h.rd s A c l hs hr hK hl hn).mono fun e w' q => ⟨q.1, Pr.rdid h q.2 hm⟩
end
section
variable {F : Nat → Prop} {D X n : Nat} {room : Int} {L L2 : List FE} {w : World} (h : Pr F D X room L L2 n w)
include h
theorem pr_crash (keep : Int) : Calls Tryz.prog 14 #[.pointer (some ⟨D, 0, none⟩), .int .i64 keep] w (OpE F D X room (L.map (crF keep)) L2 n (.returned (.int .i64 0)) w) := by
  obtain ⟨B, BR, h⟩ := h
  exact (op_crash h.db keep).mono fun e w' q => ⟨q.1, Pr.did h q.2 (Nat.le_refl _)⟩
theorem pr_rcrash (keep : Int) (hm : L2.length ≤ n) : Calls Tryz.prog 13 #[.pointer (some ⟨X, 0, none⟩), .int .i64 keep] w (OpE F D X room L (L2.map (crF keep)) n (.returned (.tuple #[])) w) := by
  obtain ⟨B, BR, h⟩ := h
  exact (rop_crash h.rd keep).mono fun e w' q => ⟨q.1, Pr.rdid h q.2 (by rw [List.length_map]; exact hm)⟩
theorem pr_used : Calls Tryz.prog 17 #[.pointer (some ⟨D, 0, none⟩)] w fun e w' => e = .returned (.int .i64 (usedF L)) ∧ Below w.heap.size w w' := by
  obtain ⟨B, BR, h⟩ := h
  exact op_used h.db
theorem pr_rused : Calls Tryz.prog 40 #[.pointer (some ⟨X, 0, none⟩)] w fun e w' => e = .returned (.int .i64 (usedF L2)) ∧ w' = w := by
  obtain ⟨B, BR, h⟩ := h
  exact rop_used h.rd
theorem pr_list : Calls Tryz.prog 20 #[.pointer (some ⟨D, 0, none⟩)] w fun e w' => ∃ u, e = .returned u ∧ w'.ownsRow w.heap.size 9 1 u L.length (L.map fun f => nmV f.s) ∧ Below w.heap.size w w' := by
  obtain ⟨B, BR, h⟩ := h
  exact op_list h.db
theorem pr_rlist : Calls Tryz.prog 39 #[.pointer (some ⟨X, 0, none⟩)] w fun e w' => ∃ u, e = .returned u ∧ w'.ownsRow w.heap.size 9 1 u L2.length (L2.map fun f => nmV f.s) ∧ Below w.heap.size w w' := by
  obtain ⟨B, BR, h⟩ := h
  exact rop_list h.rd
variable (s : Nm)
theorem pr_rsync (hm : (synL L2 s).length ≤ n) : Calls Tryz.prog 26 #[.pointer (some ⟨X, 0, none⟩), nmV s] w (OpE F D X room L (synL L2 s) n (.returned (.int .i64 (synE L2 s))) w) := by
  obtain ⟨B, BR, h⟩ := h
  exact (rop_sync h.rd s).mono fun e w' q => ⟨q.1, Pr.rdid h q.2 hm⟩
theorem pr_rcut (m : Int) (hm : (cutL L2 s m).length ≤ n) : Calls Tryz.prog 28 #[.pointer (some ⟨X, 0, none⟩), nmV s, .int .i64 m] w (OpE F D X room L (cutL L2 s m) n (.returned (.int .i64 (cutE L2 s m))) w) := by
  obtain ⟨B, BR, h⟩ := h
  exact (rop_cut h.rd s m).mono fun e w' q => ⟨q.1, Pr.rdid h q.2 hm⟩
theorem pr_rremove (hm : (delF L2 s).length ≤ n) : Calls Tryz.prog 32 #[.pointer (some ⟨X, 0, none⟩), nmV s] w (OpE F D X room L (delF L2 s) n (.returned (.int .i64 (remE L2 s))) w) := by
  obtain ⟨B, BR, h⟩ := h
  exact (rop_remove h.rd s).mono fun e w' q => ⟨q.1, Pr.rdid h q.2 hm⟩
theorem pr_rread : Calls Tryz.prog 9 #[.pointer (some ⟨X, 0, none⟩), nmV s] w fun e w' => ∃ A c, e = .returned (.tuple #[.slice A (oldF L2 s).length c, .int .i64 (synE L2 s)]) ∧ Dat w' (fun b => w.heap.size ≤ b) A c (oldF L2 s) ∧ Below w.heap.size w w' := by
  obtain ⟨B, BR, h⟩ := h
  exact rop_read h.rd s
end
end Go.Proofs.YtcmbeolicopicaaGreat

