/- disk: the operations of both disks, told alike. -/
import Derived.Test.YtcmbeolicopicaaGreatE15
import Derived.Test.YtcmbeolicopicaaGreatZ7
namespace Go.Proofs.YtcmbeolicopicaaGreat
open Go.RowKit Go.Maps Go.ChangeMaps
set_option linter.unusedVariables false
set_option linter.unusedSectionVars false
set_option linter.unusedSimpArgs false
set_option maxRecDepth 100000

def synE (L : List FE) (s : Nm) : Int := if (fd L s).isSome then 0 else 6
def synL (L : List FE) (s : Nm) : List FE := match fd L s with | some f => putF L ⟨f.s, f.l, f.l.length⟩ | none => L
def cutE (L : List FE) (s : Nm) (m : Int) : Int := match fd L s with | some f => if 0 ≤ m ∧ m ≤ f.l.length then 0 else 2 | none => 6
def cutL (L : List FE) (s : Nm) (m : Int) : List FE := match fd L s with | some f => if 0 ≤ m ∧ m ≤ f.l.length then putF L ⟨f.s, f.l.take m.toNat, m.toNat⟩ else L | none => L
def remE (L : List FE) (s : Nm) : Int := if (fd L s).isSome then 0 else 6
section
variable {B : Nat → Prop} {D n : Nat} {room : Int} {L : List FE} {w : World} (h : DB B D room L n w) (s : Nm) (hs : s.length ≤ 1000000)
include h hs
theorem op_sync : Calls Tryz.prog 18 #[.pointer (some ⟨D, 0, none⟩), nmV s] w fun e w' => e = .returned (.int .i64 (synE L s)) ∧ DDid B D room (synL L s) n w w' := by
  have h0 := h
  obtain ⟨st, h⟩ := h
  unfold synE synL
  cases e : fd L s with
  | none => exact (sync_out h s hs e).mono fun x w' q => ⟨q.1, by rw [← q.2]; exact DDid.same h0 (Below.refl _ _)⟩
  | some g =>
    obtain ⟨f, j, q1, q2, q3, q4⟩ := fdD_some_of h e
    subst q2
    exact sync_in h s hs q1 q4
theorem op_cut (m : Int) : Calls Tryz.prog 27 #[.pointer (some ⟨D, 0, none⟩), nmV s, .int .i64 m] w fun e w' => e = .returned (.int .i64 (cutE L s m)) ∧ DDid B D room (cutL L s m) n w w' := by
  have h0 := h
  obtain ⟨st, h⟩ := h
  unfold cutE cutL
  cases e : fd L s with
  | none => exact (cut_out h s hs e m).mono fun x w' q => ⟨q.1, DDid.same h0 q.2⟩
  | some g =>
    obtain ⟨f, j, q1, q2, q3, q4⟩ := fdD_some_of h e
    subst q2
    by_cases hm : 0 ≤ m ∧ m ≤ f.l.length
    · have hm' : 0 ≤ m ∧ m ≤ f.fe.l.length := hm
      simp only [hm', and_self, if_true]
      exact cut_ok h s hs q1 q4 m m.toNat (by omega) (by omega)
    · have hm' : ¬ (0 ≤ m ∧ m ≤ f.fe.l.length) := hm
      simp only [hm', if_false]
      exact (cut_bad h s hs q1 q4 m hm).mono fun x w' q => ⟨q.1, DDid.same h0 q.2⟩
theorem op_read : Calls Tryz.prog 8 #[.pointer (some ⟨D, 0, none⟩), nmV s] w fun e w' => ∃ A c, e = .returned (.tuple #[.slice A (oldF L s).length c, .int .i64 (synE L s)]) ∧ Dat w' (fun b => w.heap.size ≤ b) A c (oldF L s) ∧ Below w.heap.size w w' := by
  obtain ⟨st, h⟩ := h
  unfold synE oldF
  cases e : fd L s with
  | none => exact (read_out h s hs e).mono fun x w' q => ⟨none, 0, q.1, Dat.nil _ _, q.2⟩
  | some g =>
    obtain ⟨f, j, q1, q2, q3, q4⟩ := fdD_some_of h e
    subst q2
    exact read_in h s hs q1 q4
end
theorem DB.plain {B : Nat → Prop} {D n : Nat} {room : Int} {L : List FE} {w : World} (h : DB B D room L n w) : L.length ≤ n ∧ n ≤ 1000000 ∧ Srt L ∧ ∀ f ∈ L, f.l.length ≤ 8388608 ∧ f.n ≤ f.l.length ∧ f.s.length ≤ 24 := by
  obtain ⟨st, h⟩ := h
  exact ⟨h.few, h.nn, h.srt, h.len⟩
/-- The document's, with the number of files that may be as one likes it. -/
theorem RDB.tight {B : Nat → Prop} {X n n' : Nat} {room : Int} {L : List FE} {w : World} (h : RDB B X room L n w) (h1 : L.length ≤ n') (h2 : n' ≤ 1000000) : RDB B X room L n' w := by
  obtain ⟨P, v, q, rfl⟩ := h
  rw [List.length_map] at h1
  exact ⟨P, v, ⟨q.bk, q.row, q.own, q.hX, q.lt, q.dat, q.srt, q.len, h1, h2⟩, rfl⟩
theorem RDB.keep {B : Nat → Prop} {X n : Nat} {room : Int} {L : List FE} {w w' : World} (h : RDB B X room L n w) (hk : ∀ j, B j → w'.heap[j]? = w.heap[j]?) (hs : w.heap.size ≤ w'.heap.size) : RDB B X room L n w' := by
  obtain ⟨P, v, q, rfl⟩ := h
  exact ⟨P, v, q.keep hk hs, rfl⟩
theorem RDB.lt {B : Nat → Prop} {X n : Nat} {room : Int} {L : List FE} {w : World} (h : RDB B X room L n w) {j : Nat} (hj : B j) : j < w.heap.size := by
  obtain ⟨P, v, q, rfl⟩ := h
  exact q.lt j hj
theorem RDB.below {B : Nat → Prop} {X n : Nat} {room : Int} {L : List FE} {w w' : World} (h : RDB B X room L n w) (hb : Below w.heap.size w w') : RDB B X room L n w' := h.keep (fun j q => hb.block j (h.lt q)) hb.size
theorem RDid.nop {B : Nat → Prop} {X n : Nat} {room : Int} {L : List FE} {w w' : World} (h : RDB B X room L n w) (hb : Below w.heap.size w w') : RDid B X room L n w w' := ⟨B, fun _ q => .inl q, h.below hb, Below.lv hb⟩
theorem RDid.drewN {B : Nat → Prop} {X n : Nat} {room : Int} {L : List FE} {w w' : World} (h : RDB B X room L n w) (hb : ∃ q, w' = w.drewN q) : RDid B X room L n w w' := by
  obtain ⟨q, rfl⟩ := hb
  exact RDid.nop h (below_drewN (Below.refl _ _) q)
section
variable {B : Nat → Prop} {X n : Nat} {room : Int} {L : List FE} {w : World} (h : RDB B X room L n w)
include h
theorem rop_used : Calls Tryz.prog 40 #[.pointer (some ⟨X, 0, none⟩)] w fun e w' => e = .returned (.int .i64 (usedF L)) ∧ w' = w := by
  obtain ⟨P, v, q, rfl⟩ := h
  exact rused_any q
theorem rop_list : Calls Tryz.prog 39 #[.pointer (some ⟨X, 0, none⟩)] w fun e w' => ∃ u, e = .returned u ∧ w'.ownsRow w.heap.size 9 1 u L.length (L.map fun f => nmV f.s) ∧ Below w.heap.size w w' := by
  obtain ⟨P, v, q, rfl⟩ := h
  rw [List.length_map, List.map_map]
  exact rlist_any q
theorem rop_crash (keep : Int) : Calls Tryz.prog 13 #[.pointer (some ⟨X, 0, none⟩), .int .i64 keep] w fun e w' => e = .returned (.tuple #[]) ∧ RDid B X room (L.map (crF keep)) n w w' := by
  obtain ⟨P, v, q, rfl⟩ := h
  exact rcrash_any q keep
theorem rop_copy : Calls Tryz.prog 34 #[.pointer (some ⟨X, 0, none⟩)] w fun e w' => ∃ X2, e = .returned (.pointer (some ⟨X2, 0, none⟩)) ∧ (∃ B2, (∀ j, B2 j → w.heap.size ≤ j) ∧ RDB B2 X2 room L n w') ∧ Below w.heap.size w w' := by
  obtain ⟨P, v, q, rfl⟩ := h
  exact rcopy_any q
theorem rop_rename (s t : Nm) (hs : s.length ≤ 1000000) (ht : t.length ≤ 1000000) (hn : n + 1 ≤ 1000000) : Calls Tryz.prog 30 #[.pointer (some ⟨X, 0, none⟩), nmV s, nmV t] w fun e w' => e = .returned (.int .i64 (renE L s t)) ∧ RDid B X room (renL L s t) (n + 1) w w' := by
  obtain ⟨P, v, q, rfl⟩ := h
  exact rrename_any q s t hs ht hn
variable (s : Nm)
theorem rop_remove : Calls Tryz.prog 32 #[.pointer (some ⟨X, 0, none⟩), nmV s] w fun e w' => e = .returned (.int .i64 (remE L s)) ∧ RDid B X room (delF L s) n w w' := by
  have h0 := h
  obtain ⟨P, v, q, rfl⟩ := h
  unfold remE
  cases e : fd (P.map RF.fe) s with
  | none =>
    have hd : delF (P.map RF.fe) s = P.map RF.fe := by
      unfold delF
      rw [List.filter_eq_self]
      intro f hf
      simpa using fd_none e f hf
    rw [hd]
    exact (rremove_out q s e).mono fun x w' q => ⟨q.1, RDid.drewN h0 q.2⟩
  | some g =>
    obtain ⟨f, hf, rfl, hfs⟩ := fd_file rfl q.srt e
    exact (rremove_x q s hf hfs).mono fun x w' q => ⟨q.1, q.2.did⟩
theorem rop_sync : Calls Tryz.prog 26 #[.pointer (some ⟨X, 0, none⟩), nmV s] w fun e w' => e = .returned (.int .i64 (synE L s)) ∧ RDid B X room (synL L s) n w w' := by
  have h0 := h
  obtain ⟨P, v, q, rfl⟩ := h
  unfold synE synL
  cases e : fd (P.map RF.fe) s with
  | none => exact (rsync_out q s e).mono fun x w' q => ⟨q.1, RDid.drewN h0 q.2⟩
  | some g =>
    obtain ⟨f, hf, rfl, hfs⟩ := fd_file rfl q.srt e
    exact rsync_in q s hf hfs
theorem rop_cut (m : Int) : Calls Tryz.prog 28 #[.pointer (some ⟨X, 0, none⟩), nmV s, .int .i64 m] w fun e w' => e = .returned (.int .i64 (cutE L s m)) ∧ RDid B X room (cutL L s m) n w w' := by
  have h0 := h
  obtain ⟨P, v, q, rfl⟩ := h
  unfold cutE cutL
  cases e : fd (P.map RF.fe) s with
  | none => exact (rcut_out q s m e).mono fun x w' q => ⟨q.1, RDid.drewN h0 q.2⟩
  | some g =>
    obtain ⟨f, hf, rfl, hfs⟩ := fd_file rfl q.srt e
    by_cases hm : 0 ≤ m ∧ m ≤ f.l.length
    · have hm' : 0 ≤ m ∧ m ≤ f.fe.l.length := hm
      simp only [hm', and_self, if_true]
      have hc := rcut_ok q s m.toNat hf hfs (by omega)
      rw [show ((m.toNat : Nat) : Int) = m by omega] at hc
      exact hc
    · have hm' : ¬ (0 ≤ m ∧ m ≤ f.fe.l.length) := hm
      simp only [hm', if_false]
      exact (rcut_bad q s m hf hfs hm).mono fun x w' q => ⟨q.1, RDid.drewN h0 q.2⟩
theorem rop_read : Calls Tryz.prog 9 #[.pointer (some ⟨X, 0, none⟩), nmV s] w fun e w' => ∃ A c, e = .returned (.tuple #[.slice A (oldF L s).length c, .int .i64 (synE L s)]) ∧ Dat w' (fun b => w.heap.size ≤ b) A c (oldF L s) ∧ Below w.heap.size w w' := by
  obtain ⟨P, v, q, rfl⟩ := h
  unfold synE oldF
  cases e : fd (P.map RF.fe) s with
  | none =>
    refine (rread_out q s e).mono ?_
    rintro x w' ⟨q1, k, rfl⟩
    exact ⟨none, 0, q1, Dat.nil _ _, below_drewN (Below.refl _ _) k⟩
  | some g =>
    obtain ⟨f, hf, rfl, hfs⟩ := fd_file rfl q.srt e
    exact rread_in q s hf hfs
theorem rop_append {K : Nat → Prop} (A : Option Addr) (c : Nat) (l : List Int) (hs : s.length ≤ 1000000) (hr : Rd w K A c (u8s l)) (hK : ∀ b, K b → b < w.heap.size) (hl : l.length ≤ 8388609) (hn : n + 1 ≤ 1000000) :
    Calls Tryz.prog 35 #[.pointer (some ⟨X, 0, none⟩), nmV s, .slice A l.length c] w fun e w' => e = .returned (.int .i64 (appE room L s l)) ∧ RDid B X room (appL room L s l) (n + 1) w w' := by
  have h0 := h
  obtain ⟨P, v, q, rfl⟩ := h
  by_cases hok : okN s = true
  · have h24 : s.length ≤ 24 := by
      have := hok
      unfold okN at this
      rw [Bool.and_eq_true] at this
      exact (of_decide_eq_true this.1).2
    cases e : fd (P.map RF.fe) s with
    | none => exact rop_append_out q s A c l hr hK (by omega) hok h24 e hn
    | some g =>
      obtain ⟨f, hf, rfl, hfs⟩ := fd_file rfl q.srt e
      exact rop_append_in q s A c l hr hK (by omega) hok h24 hf hfs hn
  · have hok : okN s = false := by simpa using hok
    have hE : appE room (P.map RF.fe) s l = 2 := by unfold appE; rw [hok]; rfl
    have hL : appL room (P.map RF.fe) s l = P.map RF.fe := by unfold appL; rw [hE]; rfl
    rw [hE, hL]
    have hnm := rname_any s w hs
    rw [hok] at hnm
    have HD := Lib.hid (RDid.same q (Below.refl w.heap.size w) (Nat.le_succ n) hn)
    clear q h0 hE hL hr hK hok
    unfold nmV at *
    go_enter Tryz.func35, Tryz.ntmps35
    go_wp2_with fail
    (with_reducible refine hnm.mono ?_)
    rintro _ _ ⟨rfl, rfl⟩
    clear hnm
    go_wp2_with fail
    go_ret
    exact ⟨rfl, HD.out⟩
end
end Go.Proofs.YtcmbeolicopicaaGreat

