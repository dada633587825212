/- A place of a packet, of a stack; the document's word: walks. -/
import Derived.Test.YtdhfdlelnkoomaaDoorTWord
namespace Go.Proofs.YtdhfdlelnkoomaaDoor
open Go.RowKit
set_option linter.unusedVariables false
set_option maxRecDepth 100000

/-- An instruction by natural numbers. -/
def mkI (o : Int) (op : Nat) (nar : Bool) (d a b u sz t : Nat) : Ins := ⟨o, op, nar, d, a, b, u, sz, t⟩
/-- A right one's are small. -/
structure Ln (op d a b u sz t : Nat) : Prop where
  ld : d ≤ 15
  la : a ≤ 15
  lb : b ≤ 15
  lu : u < 18446744073709551616
  ls : sz ≤ 8
  lt : t ≤ 16384
  lw : op < 28
/-- The instruction lies whole in block N, made by the call (from W0 on); the tables read on. -/
structure Kp (B N : Nat) (f : Ins) (W0 w : World) : Prop where
  bk : Bk w N 35 (insV f)
  tb : Tb B w
  lo : B ≤ N
  below : Below N W0 w
theorem Kp.step {B N : Nat} {f : Ins} {W0 w w' : World} (h : Kp B N f W0 w) (hb : Below w.heap.size w w') : Kp B N f W0 w' :=
  ⟨h.bk.below hb h.bk.lt, h.tb.keep' hb (by have := h.bk.lt; have := h.lo; omega), h.lo, h.below.trans (hb.mono (Nat.le_of_lt h.bk.lt))⟩
theorem Kp.drew {B N : Nat} {f : Ins} {W0 w : World} (h : Kp B N f W0 w) : Kp B N f W0 w.drew := ⟨h.bk, h.tb.drew, h.lo, h.below.drew⟩
theorem Kp.cs {B N : Nat} {f : Ins} {W0 w : World} (h : Kp B N f W0 w) :
    w.cell? ⟨N, 0, none⟩ = some (.int .u8 f.op) ∧ w.cell? ⟨N, 1, none⟩ = some (.int .u8 f.what) ∧ w.cell? ⟨N, 2, none⟩ = some (.bool f.nar) ∧ w.cell? ⟨N, 3, none⟩ = some (.int .i64 f.d) ∧ w.cell? ⟨N, 4, none⟩ = some (.int .i64 f.a) ∧
     w.cell? ⟨N, 5, none⟩ = some (.int .i64 f.b) ∧ w.cell? ⟨N, 6, none⟩ = some (.int .u64 f.n) ∧ w.cell? ⟨N, 7, none⟩ = some (.int .i64 f.size) ∧ w.cell? ⟨N, 8, none⟩ = some (.int .i64 f.to) :=
  ⟨h.bk.cell 0, h.bk.cell 1, h.bk.cell 2, h.bk.cell 3, h.bk.cell 4, h.bk.cell 5, h.bk.cell 6, h.bk.cell 7, h.bk.cell 8⟩
theorem Kp.box {B : Nat} (f : Ins) {w : World} (ht : Tb B w) (hB : B ≤ w.heap.size) : ∃ w0 : World, w.alloc (.cells (insV f).toArray 35) = w0 ∧ Hid (Kp B w.heap.size f w w0) ∧ Hid (w0.heap.size = w.heap.size + 1) :=
  ⟨_, rfl, Lib.hid ⟨Bk.new w _ _, ht.alloc hB _, hB, (Below.refl _ _).alloc (Nat.le_refl _) _⟩, Lib.hid (by simp)⟩
/-- A place's text. -/
def cellT (s : List UInt8) (a u sz : Nat) : List UInt8 := ((((((s ++ Lib.itoa sz) ++ [91]) ++ rT a) ++ [32, 43, 32]) ++ Lib.decDigits u) ++ [93])
theorem itoa_l (n : Nat) (h : n ≤ 17000) : (Lib.itoa n).length ≤ 21 := Lib.itoa_length_le n (by omega) (by omega)
theorem rT_l (n : Nat) (h : n ≤ 15) : (rT n).length ≤ 22 := rT_len n (by omega) (by omega)
theorem cellT_len (s : List UInt8) (a u sz : Nat) (h1 : a ≤ 15) (h2 : u < 18446744073709551616) (h3 : sz ≤ 8) : (cellT s a u sz).length ≤ s.length + 80 := by
  have := itoa_l sz (by omega)
  have := rT_l a h1
  have := dec_len u h2
  simp only [cellT, List.length_append, List.length_cons, List.length_nil]
  omega
theorem itoaN_any {B : Nat} (n : Nat) (h : n ≤ 17000) (w : World) (ht : Tb B w) :
    Calls Tryd.prog 23 #[.int .i64 (n : Int)] w fun e w' => e = .returned (.string ⟨(Lib.itoa n).toArray⟩) ∧ Below w.heap.size w w' := itoa_any _ (by omega) (by omega) w ht
theorem rN_any {B : Nat} (n : Nat) (h : n ≤ 15) (w : World) (ht : Tb B w) :
    Calls Tryd.prog 45 #[.int .i64 (n : Int)] w fun e w' => e = .returned (.string ⟨(rT n).toArray⟩) ∧ Below w.heap.size w w' := r_any _ (by omega) (by omega) w ht
theorem rrN_any {B : Nat} (n : Nat) (h : n ≤ 15) (w : World) (ht : Tb B w) :
    Calls Tryd.prog 48 #[.int .i64 (n : Int)] w fun e w' => e = .returned (.string ⟨(rT n).toArray⟩) ∧ Below w.heap.size w w' := rr_any _ (by omega) (by omega) w ht
set_option maxHeartbeats 1000000 in
theorem cell_any {B : Nat} (s : List UInt8) (hs : s.length ≤ 10) (o : Int) (op : Nat) (nar : Bool) (d a b u sz t : Nat) (hf : Ln op d a b u sz t) (w : World) (ht : Tb B w) (hB : B ≤ w.heap.size) :
    Calls Tryd.prog 47 #[.string ⟨s.toArray⟩, insA (mkI o op nar d a b u sz t)] w fun e w' => e = .returned (.string ⟨(cellT s a u sz).toArray⟩) ∧ Below w.heap.size w w' := by
  obtain ⟨w0, e0, HK, hz⟩ := Kp.box (mkI o op nar d a b u sz t) ht hB
  have HK0 := Lib.hid HK.out.drew
  have hls := itoa_l sz (by have := hf.ls; omega)
  have hlr := rT_l a hf.la
  have hlu := dec_len u hf.lu
  have g1 : ¬ (9223372036854775807 < s.length + (Lib.itoa (sz : Int)).length) := by omega
  have g2 : ¬ (9223372036854775807 < s.length + (Lib.itoa (sz : Int)).length + 1) := by omega
  have g3 : ¬ (9223372036854775807 < s.length + (Lib.itoa (sz : Int)).length + 1 + (rT (a : Int)).length) := by omega
  have g4 : ¬ (9223372036854775807 < s.length + (Lib.itoa (sz : Int)).length + 1 + (rT (a : Int)).length + 3) := by omega
  have g5 : ¬ (9223372036854775807 < s.length + (Lib.itoa (sz : Int)).length + 1 + (rT (a : Int)).length + 3 + (Lib.decDigits u).length) := by omega
  have g6 : ¬ (9223372036854775807 < s.length + (Lib.itoa (sz : Int)).length + 1 + (rT (a : Int)).length + 3 + (Lib.decDigits u).length + 1) := by omega
  have HE := Lib.hid (show cellT s a u sz = ((((((s ++ Lib.itoa sz) ++ [91]) ++ rT a) ++ [32, 43, 32]) ++ Lib.decDigits u) ++ [93]) from rfl)
  clear ht
  simp only [mkI, insV] at e0
  go_enter Tryd.func47, Tryd.ntmps47
  unfold insA insV mkI
  go_wp2_with fail
  clear e0
  go_region_held3 (fun w' => w'.cell? ⟨w.heap.size, 0, none⟩ = some (.int .u8 o) ∧ w'.cell? ⟨w.heap.size, 1, none⟩ = some (.int .u8 (op : Int)) ∧ w'.cell? ⟨w.heap.size, 2, none⟩ = some (.bool nar) ∧ w'.cell? ⟨w.heap.size, 3, none⟩ = some (.int .i64 (d : Int)) ∧ w'.cell? ⟨w.heap.size, 4, none⟩ = some (.int .i64 (a : Int)) ∧ w'.cell? ⟨w.heap.size, 5, none⟩ = some (.int .i64 (b : Int)) ∧ w'.cell? ⟨w.heap.size, 6, none⟩ = some (.int .u64 (u : Int)) ∧ w'.cell? ⟨w.heap.size, 7, none⟩ = some (.int .i64 (sz : Int)) ∧ w'.cell? ⟨w.heap.size, 8, none⟩ = some (.int .i64 (t : Int))) (exact Kp.cs (Hid.out (by assumption)))
    (first
      | (go_at_call 23; refine (itoaN_any sz (Nat.le_trans hf.ls (by decide)) _ (Kp.tb (Hid.out (by assumption)))).mono ?_; rintro _ w1 ⟨rfl, hb'⟩; have HK' := Lib.hid (Kp.step (Hid.out (by assumption)) hb'); clear hb')
      | (go_at_call 45; refine (rN_any a hf.la _ (Kp.tb (Hid.out (by assumption)))).mono ?_; rintro _ w2 ⟨rfl, hb'⟩; have HK' := Lib.hid (Kp.step (Hid.out (by assumption)) hb'); clear hb')
      | (go_at_call 44; refine (fmtU_any u hf.lu _ (Kp.tb (Hid.out (by assumption)))).mono ?_; rintro _ w3 ⟨rfl, hb'⟩; have HK' := Lib.hid (Kp.step (Hid.out (by assumption)) hb'); clear hb'))
  go_wp2_with fail
  go_ret
  refine ⟨ret_str ?_, (Kp.below (Hid.out (by assumption)))⟩
  rw [HE.out]
  simp only [mk_app]
set_option maxHeartbeats 1000000 in
theorem rcell_any {B : Nat} (s : List UInt8) (hs : s.length ≤ 10) (o : Int) (op : Nat) (nar : Bool) (d a b u sz t : Nat) (hf : Ln op d a b u sz t) (w : World) (ht : Tb B w) (hB : B ≤ w.heap.size) :
    Calls Tryd.prog 50 #[.string ⟨s.toArray⟩, insA (mkI o op nar d a b u sz t)] w fun e w' => e = .returned (.string ⟨(cellT s a u sz).toArray⟩) ∧ Below w.heap.size w w' := by
  obtain ⟨w0, e0, HK, hz⟩ := Kp.box (mkI o op nar d a b u sz t) ht hB
  have HK0 := Lib.hid HK.out.drew
  have hls := itoa_l sz (by have := hf.ls; omega)
  have hlr := rT_l a hf.la
  have hlu := dec_len u hf.lu
  have g1 : ¬ (9223372036854775807 < s.length + (Lib.itoa (sz : Int)).length) := by omega
  have g2 : ¬ (9223372036854775807 < s.length + (Lib.itoa (sz : Int)).length + 1) := by omega
  have g3 : ¬ (9223372036854775807 < s.length + (Lib.itoa (sz : Int)).length + 1 + (rT (a : Int)).length) := by omega
  have g4 : ¬ (9223372036854775807 < s.length + (Lib.itoa (sz : Int)).length + 1 + (rT (a : Int)).length + 3) := by omega
  have g5 : ¬ (9223372036854775807 < s.length + (Lib.itoa (sz : Int)).length + 1 + (rT (a : Int)).length + 3 + (Lib.decDigits u).length) := by omega
  have g6 : ¬ (9223372036854775807 < s.length + (Lib.itoa (sz : Int)).length + 1 + (rT (a : Int)).length + 3 + (Lib.decDigits u).length + 1) := by omega
  have HE := Lib.hid (show cellT s a u sz = ((((((s ++ Lib.itoa sz) ++ [91]) ++ rT a) ++ [32, 43, 32]) ++ Lib.decDigits u) ++ [93]) from rfl)
  clear ht
  simp only [mkI, insV] at e0
  go_enter Tryd.func50, Tryd.ntmps50
  unfold insA insV mkI
  go_wp2_with fail
  clear e0
  go_region_held3 (fun w' => w'.cell? ⟨w.heap.size, 0, none⟩ = some (.int .u8 o) ∧ w'.cell? ⟨w.heap.size, 1, none⟩ = some (.int .u8 (op : Int)) ∧ w'.cell? ⟨w.heap.size, 2, none⟩ = some (.bool nar) ∧ w'.cell? ⟨w.heap.size, 3, none⟩ = some (.int .i64 (d : Int)) ∧ w'.cell? ⟨w.heap.size, 4, none⟩ = some (.int .i64 (a : Int)) ∧ w'.cell? ⟨w.heap.size, 5, none⟩ = some (.int .i64 (b : Int)) ∧ w'.cell? ⟨w.heap.size, 6, none⟩ = some (.int .u64 (u : Int)) ∧ w'.cell? ⟨w.heap.size, 7, none⟩ = some (.int .i64 (sz : Int)) ∧ w'.cell? ⟨w.heap.size, 8, none⟩ = some (.int .i64 (t : Int))) (exact Kp.cs (Hid.out (by assumption)))
    (first
      | (go_at_call 23; refine (itoaN_any sz (Nat.le_trans hf.ls (by decide)) _ (Kp.tb (Hid.out (by assumption)))).mono ?_; rintro _ w1 ⟨rfl, hb'⟩; have HK' := Lib.hid (Kp.step (Hid.out (by assumption)) hb'); clear hb')
      | (go_at_call 48; refine (rrN_any a hf.la _ (Kp.tb (Hid.out (by assumption)))).mono ?_; rintro _ w2 ⟨rfl, hb'⟩; have HK' := Lib.hid (Kp.step (Hid.out (by assumption)) hb'); clear hb')
      | (go_at_call 44; refine (fmtU_any u hf.lu _ (Kp.tb (Hid.out (by assumption)))).mono ?_; rintro _ w3 ⟨rfl, hb'⟩; have HK' := Lib.hid (Kp.step (Hid.out (by assumption)) hb'); clear hb'))
  go_wp2_with fail
  go_ret
  refine ⟨ret_str ?_, (Kp.below (Hid.out (by assumption)))⟩
  rw [HE.out]
  simp only [mk_app]
end Go.Proofs.YtdhfdlelnkoomaaDoor
