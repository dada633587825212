/- disk: is a text a name? -/
import Derived.Test.YtcmbeolicopicaaGreatDFun
import Derived.Test.YtcmbeolicopicaaGreatDShelf
import Derived.Laws.IdiomStrings
namespace Go.Proofs.YtcmbeolicopicaaGreat
open Go.RowKit Go.Maps Go.ChangeMaps
set_option linter.unusedVariables false
set_option linter.unusedSimpArgs false
set_option maxRecDepth 100000

/-- May a byte stand in a name? -/
def okI (c : Int) : Bool := decide (97 ≤ c ∧ c ≤ 122 ∨ 48 ≤ c ∧ c ≤ 57 ∨ c = 46 ∨ c = 95)
def sgn : List UInt8 := [97, 98, 99, 100, 101, 102, 103, 104, 105, 106, 107, 108, 109, 110, 111, 112, 113, 114, 115, 116, 117, 118, 119, 120, 121, 122, 48, 49, 50, 51, 52, 53, 54, 55, 56, 57, 46, 95]
theorem sgn_nat : ∀ n : Nat, n < 256 → (Lib.indexByte sgn n.toUInt8 < 0 ↔ okI (n : Int) = false) := by decide +kernel
theorem sgn_ok (c : Int) (h0 : 0 ≤ c) (h1 : c < 256) : Lib.indexByte sgn c.toNat.toUInt8 < 0 ↔ okI c = false := by
  have := sgn_nat c.toNat (by omega)
  rw [show ((c.toNat : Nat) : Int) = c by omega] at this
  exact this
theorem odd_any (c : Int) (h0 : 0 ≤ c) (h1 : c < 256) (w : World) : Calls Tryz.prog 69 #[.int .u8 c] w fun e w' => e = .returned (.bool (!okI c)) ∧ w = w' := by
  have hs := sgn_ok c h0 h1
  have hc := Tryz.strings_IndexByte ⟨sgn.toArray⟩ c
  obtain ⟨z, hz⟩ : ∃ z, Hid (z = Lib.indexByte sgn c.toNat.toUInt8) := ⟨_, Lib.hid rfl⟩
  rw [show Lib.indexByte (⟨sgn.toArray⟩ : ByteArray).data.toList c.toNat.toUInt8 = z from hz.out.symm] at hc
  rw [← hz.out] at hs
  have HS := Lib.hid hs
  clear hs
  unfold sgn at hc
  by_cases hneg : z < 0
  · have d1 : decide (z < 0) = true := decide_eq_true hneg
    have HE : Hid (okI c = false) := Lib.hid (HS.out.1 hneg)
    go_enter Tryz.func69, Tryz.ntmps69
    go_wp2_with fail
    (with_reducible refine (hc _).mono ?_)
    rintro _ _ ⟨rfl, rfl⟩
    go_wp2_with fail
    go_ret
    exact ⟨by rw [HE.out]; rfl, rfl⟩
  · have d1 : decide (z < 0) = false := decide_eq_false hneg
    have HE : Hid (okI c = true) := Lib.hid (by cases h : okI c with | true => rfl | false => exact absurd (HS.out.2 h) hneg)
    go_enter Tryz.func69, Tryz.ntmps69
    go_wp2_with fail
    (with_reducible refine (hc _).mono ?_)
    rintro _ _ ⟨rfl, rfl⟩
    go_wp2_with fail
    go_ret
    exact ⟨by rw [HE.out]; rfl, rfl⟩
theorem all_take {l : List Int} {k : Nat} (hk : k < l.length) : (l.take (k + 1)).all okI = ((l.take k).all okI && okI l[k]) := by
  rw [List.take_succ_eq_append_getElem hk, List.all_append]; simp
set_option maxHeartbeats 1000000 in
theorem index_any (K : Nat → Prop) (A : Option Addr) (c : Nat) (l : List Int) (w : World) (h : Rd w K A c (u8s l)) (hl : ∀ x ∈ l, 0 ≤ x ∧ x < 256) (hn : l.length ≤ 1000000000) :
    Calls Tryz.prog 99 #[.slice A l.length c, .func (.func 69) #[] #[]] w fun e w' => (∃ z, e = .returned (.int .i64 z) ∧ (z < 0 ↔ l.all okI = true)) ∧ w = w' := by
  go_enter Tryz.func99, Tryz.ntmps99
  go_wp2_with fail
  go_loop [8] (fun i => ∃ k : Nat, k ≤ l.length ∧ i = .int .i64 k ∧ Hid ((l.take k).all okI = true)) (fun i => l.length - (intOf i).toNat)
  case atStart => exact ⟨0, Nat.zero_le _, rfl, Lib.hid (by simp)⟩
  case round =>
    obtain ⟨k, hk, rfl, hp⟩ := hrel
    by_cases hlt : k < l.length
    · have d1 : decide ((k : Int) < (l.length : Int)) = true := decide_eq_true (by omega)
      obtain ⟨a, x, rfl, _, ca, hx⟩ := h.at_ hlt
      have hr := hl x (List.mem_of_getElem? hx.out)
      have hxe : Hid (l[k] = x) := Lib.hid (by have := hx.out; rw [List.getElem?_eq_getElem hlt] at this; injection this)
      by_cases hok : okI x = true
      · have ho := odd_any x hr.1 hr.2 w
        rw [hok, Bool.not_true] at ho
        have HK := Lib.hid hok
        clear hok
        go_wp2_with fail
        (with_reducible refine ho.mono ?_)
        rintro _ _ ⟨rfl, rfl⟩
        clear ho
        go_wp2_with fail
        go_round
        case rel => exact ⟨k + 1, by omega, by go_num, Lib.hid (by rw [all_take hlt, hp.out, hxe.out, HK.out]; rfl)⟩
        case measure => simp [intOf]; omega
      · have hok : okI x = false := by simpa using hok
        have ho := odd_any x hr.1 hr.2 w
        rw [hok, Bool.not_false] at ho
        have HK := Lib.hid hok
        clear hok
        go_wp2_with fail
        (with_reducible refine ho.mono ?_)
        rintro _ _ ⟨rfl, rfl⟩
        clear ho
        go_wp2_with fail
        go_ret
        refine ⟨⟨_, rfl, ?_⟩, rfl⟩
        constructor
        · intro q; omega
        · intro q
          have := List.all_eq_true.1 q x (List.mem_of_getElem? hx.out)
          rw [HK.out] at this; cases this
    · have d1 : decide ((k : Int) < (l.length : Int)) = false := decide_eq_false (by omega)
      rw [List.take_of_length_le (by omega)] at hp
      go_wp2_with fail
      go_ret
      exact ⟨⟨_, rfl, ⟨fun _ => List.all_eq_true.1 hp.out, fun _ => by decide⟩⟩, rfl⟩
theorem contains_any (K : Nat → Prop) (A : Option Addr) (c : Nat) (l : List Int) (w : World) (h : Rd w K A c (u8s l)) (hl : ∀ x ∈ l, 0 ≤ x ∧ x < 256) (hn : l.length ≤ 1000000000) :
    Calls Tryz.prog 71 #[.slice A l.length c, .func (.func 69) #[] #[]] w fun e w' => e = .returned (.bool (!l.all okI)) ∧ w = w' := by
  have hi := index_any K A c l w h hl hn
  go_enter Tryz.func71, Tryz.ntmps71
  go_wp2_with fail
  (with_reducible refine hi.mono ?_)
  rintro _ _ ⟨⟨z, rfl, hz⟩, rfl⟩
  clear hi
  cases hb : l.all okI with
  | true =>
    have d1 : decide (0 ≤ z) = false := decide_eq_false (by have := hz.2 hb; omega)
    clear hz
    have HB := Lib.hid hb
    clear hb
    go_wp2_with fail
    go_ret
    exact ⟨by rw [HB.out]; rfl, rfl⟩
  | false =>
    have d1 : decide (0 ≤ z) = true := decide_eq_true (by
      refine Int.not_lt.1 fun q => ?_
      rw [hz.1 q] at hb; cases hb)
    clear hz
    have HB := Lib.hid hb
    clear hb
    go_wp2_with fail
    go_ret
    exact ⟨by rw [HB.out]; rfl, rfl⟩
def bI (u : List UInt8) : List Int := u.map fun (b : UInt8) => (b.toNat : Int)
@[simp] theorem bI_len (u : List UInt8) : (bI u).length = u.length := by simp [bI]
theorem bI_range (u : List UInt8) : ∀ x ∈ bI u, 0 ≤ x ∧ x < 256 := by
  intro x hx
  obtain ⟨b, _, rfl⟩ := List.mem_map.1 hx
  have := b.toNat_lt
  omega
/-- A text's bytes. -/
theorem conv_any (s : Nm) (W : World) : ∃ c W', (convert 9 29 (.string ⟨s.toArray⟩)).run Tryz.prog W = .ok (.slice (some ⟨W.heap.size, 0, none⟩) s.length c) W' ∧ Rd W' (fun b => b = W.heap.size) (some ⟨W.heap.size, 0, none⟩) c (u8s (bI s)) ∧ Below W.heap.size W W' ∧ W.heap.size < W'.heap.size := by
  have h := run_bytes_of_string (P := Tryz.prog) W 9 29 5 ⟨s.toArray⟩ Tryz.underlying9 Tryz.underlying29 Tryz.underlying5
  refine ⟨_, _, h, ⟨fun e => (by cases e), fun _ => ⟨_, rfl, rfl, fun j u hu => ?_⟩⟩, ((Below.refl _ _).drew).alloc (Nat.le_refl _) _, by simp⟩
  have hadd : (⟨W.heap.size, 0, none⟩ : Addr).add j = ⟨W.heap.size, j, none⟩ := by unfold Addr.add; split <;> simp_all
  have hj := (List.getElem?_eq_some_iff.1 hu).1
  simp at hj
  rw [hadd, cell_of_row _ W.heap.size j _ _ _ (heap_alloc_new W.drew _)]
  unfold bytesRow
  rw [Array.getElem?_append_left (by simpa using hj)]
  rw [← hu]
  simp [u8s, bI, Function.comp_def]
/-- Is a text a name? -/
def okN (s : Nm) : Bool := decide (1 ≤ s.length ∧ s.length ≤ 24) && s.all fun b => okI (b.toNat : Int)
set_option maxHeartbeats 1000000 in
theorem right_any (K : Nat → Prop) (A : Option Addr) (c : Nat) (ss : List Nm) (w : World) (h : Rd w K A c (ss.map nmV)) (hK : ∀ b, K b → b < w.heap.size) (hl : ∀ s ∈ ss, s.length ≤ 1000000) (hn : ss.length ≤ 1000000000) :
    Calls Tryz.prog 51 #[.slice A ss.length c] w fun e w' => e = .returned (.bool (ss.all okN)) ∧ Below w.heap.size w w' := by
  go_enter Tryz.func51, Tryz.ntmps51
  go_wp2_with fail
  go_loopw [8] (fun i wr => ∃ k : Nat, k ≤ ss.length ∧ i = .int .i64 k ∧ Hid ((ss.take k).all okN = true) ∧ Below w.heap.size w wr) (fun i _ => ss.length - (intOf i).toNat)
  case atStart => exact ⟨0, Nat.zero_le _, rfl, Lib.hid (by simp), Below.refl _ _⟩
  case round =>
    obtain ⟨k, hk, rfl, hp, hb⟩ := hrel
    by_cases hlt : k < ss.length
    · have d1 : decide ((k : Int) < (ss.length : Int)) = true := decide_eq_true (by omega)
      have hs : (ss.map nmV)[k]? = some (nmV ss[k]) := by simp [hlt]
      obtain ⟨a, rfl, hab, hc⟩ := h.2 (by intro e; rw [List.map_eq_nil_iff.1 e] at hlt; simp at hlt)
      have ca : wr.cell? (a.add k) = some (nmV ss[k]) := (World.cell?_of_block (by rw [add_blk]; exact hb.block _ (hK _ hab))).trans (hc k _ hs)
      have hsl := hl _ (List.getElem_mem hlt)
      obtain ⟨s, hse⟩ : ∃ s, Hid (s = ss[k]) := ⟨_, Lib.hid rfl⟩
      rw [← hse.out] at ca hsl
      unfold nmV at ca
      have hno : okN s = false → ss.all okN = false := fun q => by
        rw [List.all_eq_false]
        exact ⟨_, List.getElem_mem hlt, by rw [← hse.out, q]; decide⟩
      by_cases h0 : s = []
      · have HF := Lib.hid (hno (by rw [h0]; rfl))
        subst h0
        clear hno
        go_wp2_with fail
        go_ret
        exact ⟨by rw [HF.out]; rfl, hb⟩
      have e0 : List.isEmpty s = false := by cases s with | nil => exact absurd rfl h0 | cons _ _ => rfl
      by_cases h24 : 24 < s.length
      · have d2 : decide ((24 : Int) < (s.length : Int)) = true := decide_eq_true (by omega)
        have HF := Lib.hid (hno (by unfold okN; rw [decide_eq_false (by omega)]; rfl))
        clear hno
        go_wp2_with fail
        go_ret
        exact ⟨by rw [HF.out]; rfl, hb⟩
      have d2 : decide ((24 : Int) < (s.length : Int)) = false := decide_eq_false (by omega)
      have hno := Lib.hid hno
      have h1 : Hid (1 ≤ s.length) := Lib.hid (by cases s with | nil => exact absurd rfl h0 | cons _ _ => simp)
      clear h0
      obtain ⟨c5, w5, hcv, hr5, hb5, hl5⟩ := conv_any s wr
      have hcon := contains_any _ _ c5 (bI s) w5 hr5 (bI_range s) (by simp; omega)
      rw [bI_len] at hcon
      have hbw := hb.trans (hb5.mono hb.size)
      by_cases hg : (bI s).all okI = true
      · have HO : Hid (okN s = true) := Lib.hid (by
          unfold okN
          rw [decide_eq_true ⟨h1.out, by omega⟩, Bool.true_and]
          rw [bI, List.all_map] at hg
          exact hg)
        rw [hg, Bool.not_true] at hcon
        clear hg
        go_wp2_with fail
        (with_reducible refine hcon.mono ?_)
        rintro _ _ ⟨rfl, rfl⟩
        clear hcon hcv
        go_wp2_with fail
        go_roundw
        case rel =>
          refine ⟨k + 1, by omega, by go_num, Lib.hid ?_, hbw⟩
          rw [List.take_succ_eq_append_getElem hlt, List.all_append, hp.out, ← hse.out]
          simp [HO.out]
        case measure => simp [intOf]; omega
      · have hg : (bI s).all okI = false := by simpa using hg
        have HF := Lib.hid (hno.out (by
          unfold okN
          rw [bI, List.all_map] at hg
          rw [show (s.all fun b => okI (b.toNat : Int)) = false from hg, Bool.and_false]))
        rw [hg, Bool.not_false] at hcon
        clear hg
        go_wp2_with fail
        (with_reducible refine hcon.mono ?_)
        rintro _ _ ⟨rfl, rfl⟩
        clear hcon hcv
        go_wp2_with fail
        go_ret
        exact ⟨by rw [HF.out]; rfl, hbw⟩
    · have d1 : decide ((k : Int) < (ss.length : Int)) = false := decide_eq_false (by omega)
      rw [List.take_of_length_le (by omega)] at hp
      go_wp2_with fail
      go_ret
      exact ⟨by rw [hp.out]; rfl, hb⟩
end Go.Proofs.YtcmbeolicopicaaGreat
