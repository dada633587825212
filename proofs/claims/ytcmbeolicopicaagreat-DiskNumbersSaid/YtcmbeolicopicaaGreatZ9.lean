/- disk: the document's disk in memory; name, place, Used. disk: the document's place, Used, List. Append onto a row that is as long as its capacity: where the result lies. No program. -/
import Derived.Test.YtcmbeolicopicaaGreatE1
import Derived.Test.YtcmbeolicopicaaGreatKSame
import Derived.Test.YtcmbeolicopicaaGreatDAwk
import Derived.Test.YtcmbeolicopicaaGreatZ8
import Derived.Test.YtcmbeolicopicaaGreatZ1
namespace Go.Proofs.YtcmbeolicopicaaGreat
open Go.RowKit Go.Maps Go.ChangeMaps
set_option linter.unusedVariables false
set_option linter.unusedSectionVars false
set_option linter.unusedSimpArgs false
set_option maxRecDepth 100000

theorem ok_nat : ∀ n : Nat, n < 256 → (okI (n : Int) = (decide (97 ≤ n) && decide (n ≤ 122) || decide (48 ≤ n) && decide (n ≤ 57) || decide (n = 46) || decide (n = 95))) := by decide +kernel
/-- The document's disk lies in block X, all its memory in blocks of B. -/
structure RD (B : Nat → Prop) (X : Nat) (room : Int) (P : List RF) (n : Nat) (v : Value) (w : World) : Prop where
  bk : Bk w X 53 [v, .int .i64 room]
  row : w.ownsRow 0 67 3 v P.length (rfV P)
  own : ∀ g, v.ownBlock = some g → B g
  hX : B X
  lt : ∀ j, B j → j < w.heap.size
  dat : ∀ f ∈ P, Dat w B f.A f.c f.l
  srt : Srt (P.map RF.fe)
  len : ∀ f ∈ P, f.l.length ≤ 8388608 ∧ f.n ≤ f.l.length ∧ f.s.length ≤ 24
  few : P.length ≤ n
  nn : n ≤ 1000000
def RDB (B : Nat → Prop) (X : Nat) (room : Int) (L : List FE) (n : Nat) (w : World) : Prop := ∃ P v, RD B X room P n v w ∧ P.map RF.fe = L
def RDid (B : Nat → Prop) (X : Nat) (room : Int) (L : List FE) (n : Nat) (w w' : World) : Prop := ∃ B' : Nat → Prop, (∀ j, B' j → B j ∨ w.heap.size ≤ j) ∧ RDB B' X room L n w' ∧ Lv B w w'
section
variable {B : Nat → Prop} {X n : Nat} {room : Int} {P : List RF} {v : Value} {w w' : World}
theorem RD.keep (h : RD B X room P n v w) (hk : ∀ j, B j → w'.heap[j]? = w.heap[j]?) (hs : w.heap.size ≤ w'.heap.size) : RD B X room P n v w' :=
  ⟨(hk _ h.hX).trans h.bk, owns_keep h.row (fun g e => hk _ (h.own g e)), h.own, h.hX, fun j q => Nat.lt_of_lt_of_le (h.lt j q) hs, fun p hp => (h.dat p hp).keep (fun b q _ => hk b q) hs (fun _ q _ => q), h.srt, h.len, h.few, h.nn⟩
theorem RD.below (h : RD B X room P n v w) (hb : Below w.heap.size w w') : RD B X room P n v w' := h.keep (fun j q => hb.block j (h.lt j q)) hb.size
theorem RD.form (h : RD B X room P n v w) : ∃ A c, v = .slice A P.length c ∧ P.length ≤ c ∧ c ≤ maxLen ∧ (A = none → c = 0) ∧ (P ≠ [] → ∃ g, A = some ⟨g, 0, none⟩) := by
  rcases h.row.2 with ⟨e1, e2⟩ | ⟨g, cap, cur, e1, hb, hg, h2, h3, h4, h5⟩
  · exact ⟨none, 0, by rw [e1, e2], Nat.le_of_eq e2, by decide, fun _ => rfl, fun hn => absurd (List.eq_nil_of_length_eq_zero e2) hn⟩
  · exact ⟨_, cap, e1, h2, h3, (fun e => by cases e), fun _ => ⟨_, rfl⟩⟩
theorem RD.c0 (h : RD B X room P n v w) : w.cell? ⟨X, 0, none⟩ = some v := by have := h.bk.cell 0; simpa using this
theorem RD.c1 (h : RD B X room P n v w) : w.cell? ⟨X, 1, none⟩ = some (.int .i64 room) := by have := h.bk.cell 1; simpa using this
/-- A file's cells. -/
theorem RD.at_ (h : RD B X room P n v w) {i : Nat} {f : RF} (hi : P[i]? = some f) : ∃ g c, v = .slice (some ⟨g, 0, none⟩) P.length c ∧ v.ownBlock = some g ∧
    w.cell? ⟨g, i * 3, none⟩ = some (nmV f.s) ∧ w.cell? ⟨g, i * 3 + 1, none⟩ = some f.dv ∧ w.cell? ⟨g, i * 3 + 2, none⟩ = some (.int .i64 f.n) := by
  obtain ⟨A, c, hv, _, _, _, hA⟩ := h.form
  obtain ⟨g, rfl⟩ := hA (by rintro rfl; simp at hi)
  have hadd : ∀ j, (⟨g, 0, none⟩ : Addr).add j = ⟨g, j, none⟩ := fun j => by unfold Addr.add; split <;> simp_all
  have ho : v.ownBlock = some g := by rw [hv]; rfl
  have hc : ∀ j u, (rfV P)[j]? = some u → w.cell? ⟨g, j, none⟩ = some u := fun j u hu => by
    have := World.ownsRow.cells (g := g) h.row ho j u hu
    rw [hadd] at this
    exact this
  exact ⟨g, c, hv, ho, hc _ _ ((rfV_at hi (j := 0) (by omega)).trans rfl), hc _ _ ((rfV_at hi (j := 1) (by omega)).trans rfl), hc _ _ ((rfV_at hi (j := 2) (by omega)).trans rfl)⟩
end
theorem take_b (b : ByteArray) (k : Nat) (h : k < b.size) : b.data.toList.take (k + 1) = b.data.toList.take k ++ [b[k]] := by
  rw [List.take_succ_eq_append_getElem (by simpa using h)]; rfl
set_option maxHeartbeats 1000000 in
theorem rname_b (b : ByteArray) (w : World) (hs : b.size ≤ 1000000) : Calls Tryz.prog 57 #[.string b] w fun e w' => e = .returned (.bool (okN b.data.toList)) ∧ w = w' := by
  go_enter Tryz.func57, Tryz.ntmps57
  go_wp2_with fail
  go_loop [3] (fun i => ∃ k : Nat, k ≤ b.size ∧ i = .int .i64 k ∧ Hid ((b.data.toList.take k).all (fun c => okI (c.toNat : Int)) = true)) (fun i => b.size - (intOf i).toNat)
  case atStart => exact ⟨0, Nat.zero_le _, rfl, Lib.hid (by simp)⟩
  case round =>
    obtain ⟨k, hk, rfl, hp⟩ := hrel
    by_cases hlt : k < b.size
    · have hts := Lib.hid (take_b b k hlt)
      have hno : Hid (okI (b[k].toNat : Int) = false → okN b.data.toList = false) := Lib.hid fun q => by
        have : b.data.toList.all (fun c => okI (c.toNat : Int)) = false := by
          rw [← List.take_append_drop (k + 1) b.data.toList, List.all_append, hts.out, List.all_append]
          simp [q]
        unfold okN
        rw [this, Bool.and_false]
      have hx : (b[k].toNat : Int) < 256 := by have := b[k].toNat_lt; omega
      have h0 : (0 : Int) ≤ (b[k].toNat : Int) := Int.natCast_nonneg _
      have hiv : ((0 : Int) ≤ (b[k].toNat : Int) ∧ (b[k].toNat : Int) ≤ 45) ∨ ((46 : Int) ≤ (b[k].toNat : Int) ∧ (b[k].toNat : Int) ≤ 46) ∨ ((47 : Int) ≤ (b[k].toNat : Int) ∧ (b[k].toNat : Int) ≤ 47) ∨ ((48 : Int) ≤ (b[k].toNat : Int) ∧ (b[k].toNat : Int) ≤ 57) ∨ ((58 : Int) ≤ (b[k].toNat : Int) ∧ (b[k].toNat : Int) ≤ 94) ∨ ((95 : Int) ≤ (b[k].toNat : Int) ∧ (b[k].toNat : Int) ≤ 95) ∨ ((96 : Int) ≤ (b[k].toNat : Int) ∧ (b[k].toNat : Int) ≤ 96) ∨ ((97 : Int) ≤ (b[k].toNat : Int) ∧ (b[k].toNat : Int) ≤ 122) ∨ ((123 : Int) ≤ (b[k].toNat : Int) ∧ (b[k].toNat : Int) ≤ 255) := by omega
      clear hx h0
      rcases hiv with ⟨hlo, hhi⟩ | ⟨hlo, hhi⟩ | ⟨hlo, hhi⟩ | ⟨hlo, hhi⟩ | ⟨hlo, hhi⟩ | ⟨hlo, hhi⟩ | ⟨hlo, hhi⟩ | ⟨hlo, hhi⟩ | ⟨hlo, hhi⟩
      · have d2 : decide ((97 : Int) ≤ (b[k].toNat : Int)) = false := decide_eq_false (by omega)
        have d3 : decide ((b[k].toNat : Int) ≤ 122) = true := decide_eq_true (by omega)
        have d4 : decide ((48 : Int) ≤ (b[k].toNat : Int)) = false := decide_eq_false (by omega)
        have d5 : decide ((b[k].toNat : Int) ≤ 57) = true := decide_eq_true (by omega)
        have d6 : ((b[k].toNat : Int) == 46) = false := beq_eq_false_iff_ne.2 (by omega)
        have d7 : ((b[k].toNat : Int) == 95) = false := beq_eq_false_iff_ne.2 (by omega)
        have HO : Hid (okI (b[k].toNat : Int) = false) := Lib.hid (decide_eq_false (by omega))
        clear hlo hhi
        go_wp2_with fail
        go_ret
        exact ⟨by rw [hno.out HO.out]; rfl, rfl⟩
      · have d2 : decide ((97 : Int) ≤ (b[k].toNat : Int)) = false := decide_eq_false (by omega)
        have d3 : decide ((b[k].toNat : Int) ≤ 122) = true := decide_eq_true (by omega)
        have d4 : decide ((48 : Int) ≤ (b[k].toNat : Int)) = false := decide_eq_false (by omega)
        have d5 : decide ((b[k].toNat : Int) ≤ 57) = true := decide_eq_true (by omega)
        have d6 : ((b[k].toNat : Int) == 46) = true := beq_iff_eq.2 (by omega)
        have d7 : ((b[k].toNat : Int) == 95) = false := beq_eq_false_iff_ne.2 (by omega)
        have HO : Hid (okI (b[k].toNat : Int) = true) := Lib.hid (decide_eq_true (by omega))
        clear hlo hhi
        go_wp2_with fail
        go_round
        case rel => exact ⟨k + 1, by omega, by go_num, Lib.hid (by rw [hts.out, List.all_append, hp.out]; simp [HO.out])⟩
        case measure => simp [intOf]; omega
      · have d2 : decide ((97 : Int) ≤ (b[k].toNat : Int)) = false := decide_eq_false (by omega)
        have d3 : decide ((b[k].toNat : Int) ≤ 122) = true := decide_eq_true (by omega)
        have d4 : decide ((48 : Int) ≤ (b[k].toNat : Int)) = false := decide_eq_false (by omega)
        have d5 : decide ((b[k].toNat : Int) ≤ 57) = true := decide_eq_true (by omega)
        have d6 : ((b[k].toNat : Int) == 46) = false := beq_eq_false_iff_ne.2 (by omega)
        have d7 : ((b[k].toNat : Int) == 95) = false := beq_eq_false_iff_ne.2 (by omega)
        have HO : Hid (okI (b[k].toNat : Int) = false) := Lib.hid (decide_eq_false (by omega))
        clear hlo hhi
        go_wp2_with fail
        go_ret
        exact ⟨by rw [hno.out HO.out]; rfl, rfl⟩
      · have d2 : decide ((97 : Int) ≤ (b[k].toNat : Int)) = false := decide_eq_false (by omega)
        have d3 : decide ((b[k].toNat : Int) ≤ 122) = true := decide_eq_true (by omega)
        have d4 : decide ((48 : Int) ≤ (b[k].toNat : Int)) = true := decide_eq_true (by omega)
        have d5 : decide ((b[k].toNat : Int) ≤ 57) = true := decide_eq_true (by omega)
        have d6 : ((b[k].toNat : Int) == 46) = false := beq_eq_false_iff_ne.2 (by omega)
        have d7 : ((b[k].toNat : Int) == 95) = false := beq_eq_false_iff_ne.2 (by omega)
        have HO : Hid (okI (b[k].toNat : Int) = true) := Lib.hid (decide_eq_true (by omega))
        clear hlo hhi
        go_wp2_with fail
        go_round
        case rel => exact ⟨k + 1, by omega, by go_num, Lib.hid (by rw [hts.out, List.all_append, hp.out]; simp [HO.out])⟩
        case measure => simp [intOf]; omega
      · have d2 : decide ((97 : Int) ≤ (b[k].toNat : Int)) = false := decide_eq_false (by omega)
        have d3 : decide ((b[k].toNat : Int) ≤ 122) = true := decide_eq_true (by omega)
        have d4 : decide ((48 : Int) ≤ (b[k].toNat : Int)) = true := decide_eq_true (by omega)
        have d5 : decide ((b[k].toNat : Int) ≤ 57) = false := decide_eq_false (by omega)
        have d6 : ((b[k].toNat : Int) == 46) = false := beq_eq_false_iff_ne.2 (by omega)
        have d7 : ((b[k].toNat : Int) == 95) = false := beq_eq_false_iff_ne.2 (by omega)
        have HO : Hid (okI (b[k].toNat : Int) = false) := Lib.hid (decide_eq_false (by omega))
        clear hlo hhi
        go_wp2_with fail
        go_ret
        exact ⟨by rw [hno.out HO.out]; rfl, rfl⟩
      · have d2 : decide ((97 : Int) ≤ (b[k].toNat : Int)) = false := decide_eq_false (by omega)
        have d3 : decide ((b[k].toNat : Int) ≤ 122) = true := decide_eq_true (by omega)
        have d4 : decide ((48 : Int) ≤ (b[k].toNat : Int)) = true := decide_eq_true (by omega)
        have d5 : decide ((b[k].toNat : Int) ≤ 57) = false := decide_eq_false (by omega)
        have d6 : ((b[k].toNat : Int) == 46) = false := beq_eq_false_iff_ne.2 (by omega)
        have d7 : ((b[k].toNat : Int) == 95) = true := beq_iff_eq.2 (by omega)
        have HO : Hid (okI (b[k].toNat : Int) = true) := Lib.hid (decide_eq_true (by omega))
        clear hlo hhi
        go_wp2_with fail
        go_round
        case rel => exact ⟨k + 1, by omega, by go_num, Lib.hid (by rw [hts.out, List.all_append, hp.out]; simp [HO.out])⟩
        case measure => simp [intOf]; omega
      · have d2 : decide ((97 : Int) ≤ (b[k].toNat : Int)) = false := decide_eq_false (by omega)
        have d3 : decide ((b[k].toNat : Int) ≤ 122) = true := decide_eq_true (by omega)
        have d4 : decide ((48 : Int) ≤ (b[k].toNat : Int)) = true := decide_eq_true (by omega)
        have d5 : decide ((b[k].toNat : Int) ≤ 57) = false := decide_eq_false (by omega)
        have d6 : ((b[k].toNat : Int) == 46) = false := beq_eq_false_iff_ne.2 (by omega)
        have d7 : ((b[k].toNat : Int) == 95) = false := beq_eq_false_iff_ne.2 (by omega)
        have HO : Hid (okI (b[k].toNat : Int) = false) := Lib.hid (decide_eq_false (by omega))
        clear hlo hhi
        go_wp2_with fail
        go_ret
        exact ⟨by rw [hno.out HO.out]; rfl, rfl⟩
      · have d2 : decide ((97 : Int) ≤ (b[k].toNat : Int)) = true := decide_eq_true (by omega)
        have d3 : decide ((b[k].toNat : Int) ≤ 122) = true := decide_eq_true (by omega)
        have d4 : decide ((48 : Int) ≤ (b[k].toNat : Int)) = true := decide_eq_true (by omega)
        have d5 : decide ((b[k].toNat : Int) ≤ 57) = false := decide_eq_false (by omega)
        have d6 : ((b[k].toNat : Int) == 46) = false := beq_eq_false_iff_ne.2 (by omega)
        have d7 : ((b[k].toNat : Int) == 95) = false := beq_eq_false_iff_ne.2 (by omega)
        have HO : Hid (okI (b[k].toNat : Int) = true) := Lib.hid (decide_eq_true (by omega))
        clear hlo hhi
        go_wp2_with fail
        go_round
        case rel => exact ⟨k + 1, by omega, by go_num, Lib.hid (by rw [hts.out, List.all_append, hp.out]; simp [HO.out])⟩
        case measure => simp [intOf]; omega
      · have d2 : decide ((97 : Int) ≤ (b[k].toNat : Int)) = true := decide_eq_true (by omega)
        have d3 : decide ((b[k].toNat : Int) ≤ 122) = false := decide_eq_false (by omega)
        have d4 : decide ((48 : Int) ≤ (b[k].toNat : Int)) = true := decide_eq_true (by omega)
        have d5 : decide ((b[k].toNat : Int) ≤ 57) = false := decide_eq_false (by omega)
        have d6 : ((b[k].toNat : Int) == 46) = false := beq_eq_false_iff_ne.2 (by omega)
        have d7 : ((b[k].toNat : Int) == 95) = false := beq_eq_false_iff_ne.2 (by omega)
        have HO : Hid (okI (b[k].toNat : Int) = false) := Lib.hid (decide_eq_false (by omega))
        clear hlo hhi
        go_wp2_with fail
        go_ret
        exact ⟨by rw [hno.out HO.out]; rfl, rfl⟩
    · obtain rfl : k = b.size := by omega
      have hsz : b.size = b.data.toList.length := by simp
      have HO : Hid (okN b.data.toList = (decide (1 ≤ (b.size : Int)) && decide ((b.size : Int) ≤ 24))) := Lib.hid (by
        have := hp.out
        rw [List.take_of_length_le (by simp)] at this
        unfold okN
        rw [this, Bool.and_true, ← hsz, Bool.eq_iff_iff]
        simp
        omega)
      clear hsz
      by_cases h1 : 1 ≤ b.size
      · have d1 : decide ((1 : Int) ≤ (b.size : Int)) = true := decide_eq_true (by omega)
        rw [d1] at HO
        go_wp2_with fail
        go_ret
        exact ⟨by rw [HO.out]; simp, rfl⟩
      · have d1 : decide ((1 : Int) ≤ (b.size : Int)) = false := decide_eq_false (by omega)
        rw [d1] at HO
        go_wp2_with fail
        go_ret
        exact ⟨by rw [HO.out]; simp, rfl⟩
theorem rname_any (s : Nm) (w : World) (hs : s.length ≤ 1000000) : Calls Tryz.prog 57 #[nmV s] w fun e w' => e = .returned (.bool (okN s)) ∧ w = w' :=
  rname_b ⟨s.toArray⟩ w (by show s.toArray.size ≤ _; simpa using hs)
end Go.Proofs.YtcmbeolicopicaaGreat
namespace Go.Proofs.YtcmbeolicopicaaGreat
open Go.RowKit Go.Maps Go.ChangeMaps
set_option linter.unusedVariables false
set_option linter.unusedSectionVars false
set_option linter.unusedSimpArgs false
set_option maxRecDepth 100000

theorem fe_at {P : List RF} {i : Nat} {f : RF} (h : P[i]? = some f) : (P.map RF.fe)[i]? = some f.fe := by rw [List.getElem?_map, h]; rfl
section
variable {B : Nat → Prop} {X n : Nat} {room : Int} {P : List RF} {v : Value} {w : World} (h : RD B X room P n v w)
include h
set_option maxHeartbeats 1000000 in
theorem place_any (s : Nm) : Calls Tryz.prog 24 #[.pointer (some ⟨X, 0, none⟩), nmV s] w fun e w' => e = .returned (.tuple #[.int .i64 (plc (P.map RF.fe) s), .bool (fd (P.map RF.fe) s).isSome]) ∧ ∃ q, w' = w.drewN q := by
  have hmax : P.length ≤ 1000000 := Nat.le_trans h.few h.nn
  have hpl : plc (P.map RF.fe) s ≤ P.length := by have := plc_le (P.map RF.fe) s; rwa [List.length_map] at this
  have cX := h.c0
  obtain ⟨A, c, rfl, hl, hm, _, _⟩ := h.form
  have H := Lib.hid h
  clear h
  unfold nmV
  go_enter Tryz.func24, Tryz.ntmps24
  go_wp2_with fail
  go_loopw [6] (fun i wr => ∃ k : Nat, k ≤ plc (P.map RF.fe) s ∧ i = .int .i64 k ∧ wr = w) (fun i _ => P.length - (intOf i).toNat)
  case atStart => exact ⟨0, Nat.zero_le _, rfl, rfl⟩
  case round =>
    obtain ⟨k, hk, rfl, rfl⟩ := hrel
    by_cases hlt : k < P.length
    · have d1 : decide ((k : Int) < (P.length : Int)) = true := decide_eq_true (by omega)
      obtain ⟨f, hf⟩ : ∃ f, P[k]? = some f := ⟨_, List.getElem?_eq_getElem hlt⟩
      obtain ⟨g, c', hv, _, ca, _, _⟩ := H.out.at_ hf
      injection hv with hv1 _ hv2
      subst hv1 hv2
      have hp := plc_lt H.out.srt (fe_at hf) (s := s)
      have hfd := fd_plc H.out.srt s
      unfold nmV at ca
      by_cases hq : k < plc (P.map RF.fe) s
      · have hs : Op.bytesLess f.s s = true := by rw [bytesLess_eq]; exact decide_eq_true (hp.1 hq)
        clear hp hfd
        go_wp2_with fail
        go_roundw
        case rel => exact ⟨k + 1, by omega, by go_num, trivial⟩
        case measure => simp [intOf]; omega
      · have hs : Op.bytesLess f.s s = false := by rw [bytesLess_eq]; exact decide_eq_false (fun q => hq (hp.2 q))
        obtain rfl : k = plc (P.map RF.fe) s := by omega
        rw [fe_at hf] at hfd
        have HE : Hid ((fd (P.map RF.fe) s).isSome = (f.s == s)) := Lib.hid (by
          rw [hfd]
          by_cases e : f.s = s
          · simp [Option.filter, RF.fe, e]
          · simp [Option.filter, RF.fe, e])
        clear hp hfd hq
        have hbb : (f.s == s) = true ∨ (f.s == s) = false := by cases (f.s == s) <;> simp
        rcases hbb with e | e
        all_goals
          rw [e] at HE
          go_wp2_with fail
          go_quiet (fail)
          go_wp2_with fail
          go_ret2
          exact ⟨by rw [HE.out]; rfl, _, rfl⟩
    · obtain rfl : k = P.length := by omega
      have d1 : decide ((P.length : Int) < (P.length : Int)) = false := decide_eq_false (by omega)
      have hfd := fd_plc H.out.srt s
      have hpe : plc (P.map RF.fe) s = P.length := by omega
      rw [hpe, List.getElem?_eq_none (by simp)] at hfd
      have HE : Hid ((fd (P.map RF.fe) s).isSome = false) := Lib.hid (by rw [hfd]; rfl)
      have HP := Lib.hid hpe
      clear hfd hpe
      go_wp2_with fail
      go_quiet (fail)
      go_wp2_with fail
      go_ret2
      exact ⟨by rw [HE.out, HP.out]; rfl, _, rfl⟩
end
end Go.Proofs.YtcmbeolicopicaaGreat
namespace Go.Proofs.YtcmbeolicopicaaGreat
open Go.RowKit
set_option linter.unusedVariables false

variable {P : Program} (w : World)
theorem run_append_full (t ty e : TypeId) (i : TypeInfo) (z : Value) (size bytes : Nat) (ht : P.underlying t = some (.slice e)) (hi : P.info? e = some i) (hz : i.zero = some z)
    (hsize : i.size = size) (hby : i.bytes = bytes) (hzs : z.cells.size = size)
    (base : Nat) (v : Value) (n : Nat) (xs : List Value) (hown : w.ownsRow base e size v n xs) (hbase : base ≤ w.heap.size)
    (a : Addr) (m c : Nat) (news : List Value) (hl : news.length = m * size) (hnews : ∀ j u, news[j]? = some u → w.cell? (a.add j) = some u) (h1 : ∀ u ∈ news, u.oneCell' = true)
    (h63 : n + m ≤ maxLen) (hbytes : (n + m) * bytes ≤ 140737488355328) (hm : 0 < m) :
    ∃ v' w' g', (Builtin.append_ #[t, t] ty #[v, .slice (some a) m c]).run P w = .ok v' w' ∧ w'.ownsRow base e size v' (n + m) (xs ++ news) ∧ w.grownBy w' v.ownBlock ∧ v'.ownBlock = some g' ∧
      (g' = w.heap.size ∨ v.ownBlock = some g') := by
  subst hsize
  subst hby
  have hsmall : n + m ≤ 9223372036854775807 := by simp only [maxLen] at h63; omega
  have hlen : (xs ++ news).length = (n + m) * i.size := by rw [List.length_append, hown.1, hl, Nat.add_mul]
  have grown : ∀ (old : Nat) (row : Option Nat),
      (w.drew.alloc (.cells (xs.toArray ++ news.toArray ++ Builtin.zeroCells z.cells (grownCap w (n + m) old e - (n + m))) e)).ownsRow base e i.size
        (.slice (some ⟨w.heap.size, 0, none⟩) (n + m) (grownCap w (n + m) old e)) (n + m) (xs ++ news) ∧
      w.grownBy (w.drew.alloc (.cells (xs.toArray ++ news.toArray ++ Builtin.zeroCells z.cells (grownCap w (n + m) old e - (n + m))) e)) row := by
    intro old row
    have hge := grownCap_ge w (n + m) old e
    refine ⟨⟨hlen, .inr ⟨_, _, _, rfl, hbase, heap_alloc_new w.drew _, hge, grownCap_le_maxLen w (n + m) old e h63, ?_, ?_⟩⟩, ⟨rfl, rfl, rfl, by simp, fun k hk _ => heap_alloc_old w.drew _ hk⟩⟩
    · simp only [Array.size_append, List.size_toArray, size_zeroCells, hzs, hown.1, hl, ← Nat.add_mul]
      congr 1
      omega
    · simp only [Array.toList_append, List.append_assoc]
      rw [← List.append_assoc, ← hlen]
      exact List.take_left
  rcases hown.2 with ⟨rfl, rfl⟩ | ⟨g, cap, cur, rfl, hb, hg, hnc, hcm, hcs, htake⟩
  · have hx : xs = [] := List.eq_nil_of_length_eq_zero (by simpa using hown.1)
    subst hx
    have hr := run_append_nil (P := P) w t ty e i z ht hi hz a m c news hl hnews hm (by omega) (by have hb := hbytes; simp only [Nat.zero_add] at hb; omega)
    have hgr := grown 0 (Value.ownBlock (.slice none 0 0))
    simp only [Nat.zero_add, List.nil_append, Array.empty_append] at hgr ⊢
    exact ⟨_, _, _, hr, hgr.1, hgr.2, rfl, .inl rfl⟩
  · by_cases hroom : n + m ≤ cap
    · have hfit : n * i.size + news.length ≤ cur.size := by rw [hl, hcs, ← Nat.add_mul]; exact Nat.mul_le_mul_right _ hroom
      have hr := run_append_room (P := P) w t ty e i ht hi g n cap cur hg a m c news hl hnews h1 hroom hfit
      refine ⟨_, _, g, hr, ⟨hlen, .inr ⟨g, cap, _, rfl, hb, setRow_heap w g cur _ e _ hg, hroom, hcm, ?_, ?_⟩⟩, ⟨rfl, rfl, rfl, by simp, fun k _ hk => setRow_other w g k _ (fun e => hk (by simp [Value.ownBlock, e]))⟩, rfl, .inr rfl⟩
      · simp only [List.size_toArray, List.length_append, List.length_take, List.length_drop, Array.length_toList]
        omega
      · rw [htake, ← hlen]
        exact List.take_left
    · have holds := World.ownsRow.cells (g := g) hown rfl
      have hr := run_append_grow (P := P) w t ty e i z ht hi hz ⟨g, 0, none⟩ n cap xs hown.1 holds a m c news hl hnews (by omega) (by omega) (growslice_fits (by omega) hbytes)
      have hgr := grown cap (Value.ownBlock (.slice (some ⟨g, 0, none⟩) n cap))
      exact ⟨_, _, _, hr, hgr.1, hgr.2, rfl, .inl rfl⟩
theorem wpList_append_full {ops : Array Oper} {rest : List Oper} {o : Oper} {a : Act} {Q : Exit → Act → World → Prop} (hgd : o.guard = none) (s x : Operand) (t : TypeId)
    (ho : o.op = .call { callee := .builtin .append, args := #[s, x], argTypes := #[t, t] })
    (e : TypeId) (i : TypeInfo) (z : Value) (size bytes : Nat) (ht : P.underlying t = some (.slice e)) (hi : P.info? e = some i) (hz : i.zero = some z)
    (hsize : i.size = size) (hby : i.bytes = bytes) (hzs : z.cells.size = size)
    (base : Nat) (v : Value) (n : Nat) (xs : List Value) (hs : a.eval s = v) (hown : w.ownsRow base e size v n xs) (hbase : base ≤ w.heap.size)
    (ad : Addr) (m c : Nat) (news : List Value) (hx : a.eval x = .slice (some ad) m c) (hl : news.length = m * size) (hnews : ∀ j u, news[j]? = some u → w.cell? (ad.add j) = some u) (h1 : ∀ u ∈ news, u.oneCell' = true)
    (h63 : n + m ≤ maxLen) (hbytes : (n + m) * bytes ≤ 140737488355328) (hm : 0 < m)
    (h : ∀ v' w' g', w'.ownsRow base e size v' (n + m) (xs ++ news) → w.grownBy w' v.ownBlock → v'.ownBlock = some g' → (g' = w.heap.size ∨ v.ownBlock = some g') → wpList P ops Q rest (a.put o.dst v') w') : wpList P ops Q (o :: rest) a w := by
  refine wpList_plain hgd fun K hK => ?_
  obtain ⟨v', w', g', hr, h2, h3, h4, h5⟩ := run_append_full (P := P) w t o.type e i z size bytes ht hi hz hsize hby hzs base v n xs hown hbase ad m c news hl hnews h1 h63 hbytes hm
  unfold Oper.wp execOp
  simp only [ho, resolve, invoke, builtin, Sem.run_bind, Sem.run_pure, Result.andThen_ok, List.map_toArray, List.map_cons, List.map_nil, hs, hx, hr]
  exact hK _ _ (h v' w' g' h2 h3 h4 h5)
/-- .. at a step of a region that draws its order. -/
theorem step_append_full {ops : Array Oper} {o : Oper} {a : Act} {K : Act → World → Prop} {Q : Exit → Act → World → Prop} {E : Prop} (hgd : o.guard = none) (s x : Operand) (t : TypeId)
    (ho : o.op = .call { callee := .builtin .append, args := #[s, x], argTypes := #[t, t] })
    (e : TypeId) (i : TypeInfo) (z : Value) (size bytes : Nat) (ht : P.underlying t = some (.slice e)) (hi : P.info? e = some i) (hz : i.zero = some z)
    (hsize : i.size = size) (hby : i.bytes = bytes) (hzs : z.cells.size = size)
    (base : Nat) (v : Value) (n : Nat) (xs : List Value) (hs : a.eval s = v) (hown : w.ownsRow base e size v n xs) (hbase : base ≤ w.heap.size)
    (ad : Addr) (m c : Nat) (news : List Value) (hx : a.eval x = .slice (some ad) m c) (hl : news.length = m * size) (hnews : ∀ j u, news[j]? = some u → w.cell? (ad.add j) = some u) (h1 : ∀ u ∈ news, u.oneCell' = true)
    (h63 : n + m ≤ maxLen) (hbytes : (n + m) * bytes ≤ 140737488355328) (hm : 0 < m)
    (h : ∀ v' w' g', w'.ownsRow base e size v' (n + m) (xs ++ news) → w.grownBy w' v.ownBlock → v'.ownBlock = some g' → (g' = w.heap.size ∨ v.ownBlock = some g') → K (a.put o.dst v') w') :
    if Region.wanted o (yielded ops a.tmps) = true then Oper.wp P o a w K Q else E := by
  have hw : Region.wanted o (yielded ops a.tmps) = true := by simp [Region.wanted, hgd]
  rw [if_pos hw]
  obtain ⟨v', w', g', hr, h2, h3, h4, h5⟩ := run_append_full (P := P) w t o.type e i z size bytes ht hi hz hsize hby hzs base v n xs hown hbase ad m c news hl hnews h1 h63 hbytes hm
  unfold Oper.wp execOp
  simp only [ho, resolve, invoke, builtin, Sem.run_bind, Sem.run_pure, Result.andThen_ok, List.map_toArray, List.map_cons, List.map_nil, hs, hx, hr]
  exact h v' w' g' h2 h3 h4 h5
end Go.Proofs.YtcmbeolicopicaaGreat
