/- A register's name, an operator's word, a place: what they are, and the walks of both sides. -/
import Derived.Test.YtdhfdlelnkoomaaDoorTFmt
import Derived.Test.YtdhfdlelnkoomaaDoorRFlat
import Derived.Deep.RegionHeld3
import Derived.Deep.RegionWith
import Derived.Lib.ItoaLen
namespace Go.Proofs.YtdhfdlelnkoomaaDoor
open Go.RowKit
set_option linter.unusedVariables false
set_option maxRecDepth 100000

/-- "r" and the number. -/
def rT (n : Int) : List UInt8 := 114 :: Lib.itoa n
theorem mk_app (a b : List UInt8) : (⟨a.toArray⟩ : ByteArray) ++ ⟨b.toArray⟩ = ⟨(a ++ b).toArray⟩ := by
  apply ByteArray.ext
  simp [ByteArray.data_append]
theorem rT_len (n : Int) (h0 : -9223372036854775808 ≤ n) (h1 : n ≤ 9223372036854775807) : (rT n).length ≤ 22 := by
  have := Lib.itoa_length_le n h0 h1
  simp [rT]; omega
theorem dec_len (n : Nat) (h : n < 18446744073709551616) : (Lib.decDigits n).length ≤ 20 := by
  rw [Lib.decDigits_length]; exact Lib.nDigits_le20 n h

theorem r_any {B : Nat} (n : Int) (h0 : -9223372036854775808 ≤ n) (h1 : n ≤ 9223372036854775807) (w : World) (ht : Tb B w) :
    Calls Tryd.prog 45 #[.int .i64 n] w fun e w' => e = .returned (.string ⟨(rT n).toArray⟩) ∧ Below w.heap.size w w' := by
  have HT := Lib.hid ht
  have hl := Lib.itoa_length_le n h0 h1
  clear ht
  go_enter Tryd.func45, Tryd.ntmps45
  go_wp2_with (go_at_call 23; refine (itoa_any n h0 h1 _ HT.out).mono ?_; rintro e w' ⟨rfl, hb⟩)
  go_ret
  exact ⟨rfl, hb⟩
theorem rr_any {B : Nat} (n : Int) (h0 : -9223372036854775808 ≤ n) (h1 : n ≤ 9223372036854775807) (w : World) (ht : Tb B w) :
    Calls Tryd.prog 48 #[.int .i64 n] w fun e w' => e = .returned (.string ⟨(rT n).toArray⟩) ∧ Below w.heap.size w w' := by
  have HT := Lib.hid ht
  have hl := Lib.itoa_length_le n h0 h1
  clear ht
  go_enter Tryd.func48, Tryd.ntmps48
  go_wp2_with (go_at_call 23; refine (itoa_any n h0 h1 _ HT.out).mono ?_; rintro e w' ⟨rfl, hb⟩)
  go_ret
  exact ⟨rfl, hb⟩

/-- The operators' words. -/
def wordsL : List (List UInt8) := [[63], [97, 100, 100], [115, 117, 98], [109, 117, 108], [100, 105, 118], [109, 111, 100], [97, 110, 100], [111, 114], [120, 111, 114], [115, 104, 108], [115, 104, 114], [115, 97, 114], [109, 111, 118], [110, 101, 103], [63], [63], [63], [106, 101, 113], [106, 110, 101], [106, 103, 116], [106, 103, 101], [106, 108, 116], [106, 108, 101], [106, 115, 103, 116], [106, 115, 103, 101], [106, 115, 108, 116], [106, 115, 108, 101], [106, 115, 101, 116]]
def wordT (op : Nat) (nar : Bool) : List UInt8 := wordsL.getD op [] ++ (if nar then [51, 50] else [])
def wOk (op : Nat) : Prop := (1 ≤ op ∧ op ≤ 13) ∨ (17 ≤ op ∧ op ≤ 27)
theorem words_eq : Lib.fields [63, 32, 97, 100, 100, 32, 115, 117, 98, 32, 109, 117, 108, 32, 100, 105, 118, 32, 109, 111, 100, 32, 97, 110, 100, 32, 111, 114, 32, 120, 111, 114, 32, 115, 104, 108, 32, 115, 104, 114, 32, 115, 97, 114, 32, 109, 111, 118, 32, 110, 101, 103, 32, 63, 32, 63, 32, 63, 32, 106, 101, 113, 32, 106, 110, 101, 32, 106, 103, 116, 32, 106, 103, 101, 32, 106, 108, 116, 32, 106, 108, 101, 32, 106, 115, 103, 116, 32, 106, 115, 103, 101, 32, 106, 115, 108, 116, 32, 106, 115, 108, 101, 32, 106, 115, 101, 116] = wordsL := by kernel_rfl
theorem words_low : ∀ b ∈ ([63, 32, 97, 100, 100, 32, 115, 117, 98, 32, 109, 117, 108, 32, 100, 105, 118, 32, 109, 111, 100, 32, 97, 110, 100, 32, 111, 114, 32, 120, 111, 114, 32, 115, 104, 108, 32, 115, 104, 114, 32, 115, 97, 114, 32, 109, 111, 118, 32, 110, 101, 103, 32, 63, 32, 63, 32, 63, 32, 106, 101, 113, 32, 106, 110, 101, 32, 106, 103, 116, 32, 106, 103, 101, 32, 106, 108, 116, 32, 106, 108, 101, 32, 106, 115, 103, 116, 32, 106, 115, 103, 101, 32, 106, 115, 108, 116, 32, 106, 115, 108, 101, 32, 106, 115, 101, 116] : List UInt8), b.toNat < 128 := by decide
def wordsC : List Value := wordsL.map fun l => Value.string ⟨l.toArray⟩
theorem words_any {B : Nat} (w : World) (ht : Tb B w) :
    Calls Tryd.prog 59 #[] w fun e w' => e = .returned (.slice (some ⟨w.heap.size, 0, none⟩) 28 28) ∧ w' = w.alloc (.cells wordsC.toArray 9) := by
  have h := Tryd.strings_Fields ⟨#[63, 32, 97, 100, 100, 32, 115, 117, 98, 32, 109, 117, 108, 32, 100, 105, 118, 32, 109, 111, 100, 32, 97, 110, 100, 32, 111, 114, 32, 120, 111, 114, 32, 115, 104, 108, 32, 115, 104, 114, 32, 115, 97, 114, 32, 109, 111, 118, 32, 110, 101, 103, 32, 63, 32, 63, 32, 63, 32, 106, 101, 113, 32, 106, 110, 101, 32, 106, 103, 116, 32, 106, 103, 101, 32, 106, 108, 116, 32, 106, 108, 101, 32, 106, 115, 103, 116, 32, 106, 115, 103, 101, 32, 106, 115, 108, 116, 32, 106, 115, 108, 101, 32, 106, 115, 101, 116]⟩ w (by simp [ByteArray.size]) (fun j b hj => words_low b (List.mem_of_getElem? hj)) ht.sp
  have e : (⟨#[63, 32, 97, 100, 100, 32, 115, 117, 98, 32, 109, 117, 108, 32, 100, 105, 118, 32, 109, 111, 100, 32, 97, 110, 100, 32, 111, 114, 32, 120, 111, 114, 32, 115, 104, 108, 32, 115, 104, 114, 32, 115, 97, 114, 32, 109, 111, 118, 32, 110, 101, 103, 32, 63, 32, 63, 32, 63, 32, 106, 101, 113, 32, 106, 110, 101, 32, 106, 103, 116, 32, 106, 103, 101, 32, 106, 108, 116, 32, 106, 108, 101, 32, 106, 115, 103, 116, 32, 106, 115, 103, 101, 32, 106, 115, 108, 116, 32, 106, 115, 108, 101, 32, 106, 115, 101, 116]⟩ : ByteArray).data.toList = [63, 32, 97, 100, 100, 32, 115, 117, 98, 32, 109, 117, 108, 32, 100, 105, 118, 32, 109, 111, 100, 32, 97, 110, 100, 32, 111, 114, 32, 120, 111, 114, 32, 115, 104, 108, 32, 115, 104, 114, 32, 115, 97, 114, 32, 109, 111, 118, 32, 110, 101, 103, 32, 63, 32, 63, 32, 63, 32, 106, 101, 113, 32, 106, 110, 101, 32, 106, 103, 116, 32, 106, 103, 101, 32, 106, 108, 116, 32, 106, 108, 101, 32, 106, 115, 103, 116, 32, 106, 115, 103, 101, 32, 106, 115, 108, 116, 32, 106, 115, 108, 101, 32, 106, 115, 101, 116] := rfl
  rw [e, words_eq, show wordsL.length = 28 from rfl] at h
  have H := Lib.hid h
  clear h e ht
  go_enter Tryd.func59, Tryd.ntmps59
  go_wp2_with fail
  refine (H.out).mono ?_
  rintro e w' ⟨rfl, rfl⟩
  go_wp2_with fail
  go_ret
  exact ⟨rfl, rfl⟩

theorem wordsC_at (op : Nat) (h : op < 28) : wordsC[op]? = some (Value.string ⟨(wordsL.getD op []).toArray⟩) := by
  have e : wordsL.length = 28 := rfl
  rw [wordsC, List.getElem?_map, List.getElem?_eq_getElem (by rw [e]; exact h)]
  simp [List.getD_eq_getElem?_getD, e, h]
theorem words_len : ∀ op : Nat, op < 28 → (wordsL.getD op []).length ≤ 4 := by decide
/-- An instruction in a new block: what lies there, the world a name of its own. -/
theorem box_out (f : Ins) (w : World) : ∃ w0 : World, w.alloc (.cells #[.int .u8 f.op, .int .u8 f.what, .bool f.nar, .int .i64 f.d, .int .i64 f.a, .int .i64 f.b, .int .u64 f.n, .int .i64 f.size, .int .i64 f.to] 35) = w0 ∧
    (w0.cell? ⟨w.heap.size, 0, none⟩ = some (.int .u8 f.op) ∧ w0.cell? ⟨w.heap.size, 1, none⟩ = some (.int .u8 f.what) ∧ w0.cell? ⟨w.heap.size, 2, none⟩ = some (.bool f.nar) ∧ w0.cell? ⟨w.heap.size, 3, none⟩ = some (.int .i64 f.d) ∧ w0.cell? ⟨w.heap.size, 4, none⟩ = some (.int .i64 f.a) ∧
     w0.cell? ⟨w.heap.size, 5, none⟩ = some (.int .i64 f.b) ∧ w0.cell? ⟨w.heap.size, 6, none⟩ = some (.int .u64 f.n) ∧ w0.cell? ⟨w.heap.size, 7, none⟩ = some (.int .i64 f.size) ∧ w0.cell? ⟨w.heap.size, 8, none⟩ = some (.int .i64 f.to)) ∧
    Hid (w0.heap.size = w.heap.size + 1) ∧ Hid (Below w.heap.size w w0) ∧ Hid (∀ j, w0.frozen? ⟨w.heap.size, j, none⟩ = false) := by
  refine ⟨_, rfl, ⟨?_, ?_, ?_, ?_, ?_, ?_, ?_, ?_, ?_⟩, Lib.hid (by simp), Lib.hid ((Below.refl _ _).alloc (Nat.le_refl _) _), Lib.hid fun j => World.frozen?_alloc_new _ _ _ _⟩ <;> simp [World.cell?_alloc_new]
theorem ret_str {a b : ByteArray} (h : a = b) : Ending.returned (.string a) = .returned (.string b) := by rw [h]
theorem keepc {w0 w1 : World} {n j : Nat} {x : Option Value} (hz : Hid (w0.heap.size = n + 1)) (hb : Below w0.heap.size w0 w1) (h : w0.cell? ⟨n, j, none⟩ = x) : w1.cell? ⟨n, j, none⟩ = x :=
  (hb.cell (p := ⟨n, j, none⟩) (by rw [hz.out]; simp)).trans h
theorem words_b {B : Nat} (w : World) (ht : Tb B w) :
    Calls Tryd.prog 59 #[] w fun e w' => e = .returned (.slice (some ⟨w.heap.size, 0, none⟩) 28 28) ∧ (∀ op : Nat, op < 28 → w'.cell? ⟨w.heap.size, op, none⟩ = some (Value.string ⟨(wordsL.getD op []).toArray⟩)) ∧ Below w.heap.size w w' :=
  (words_any w ht).mono fun e w' ⟨he, hw⟩ => ⟨he, fun op ho => by rw [hw, World.cell?_alloc_new, List.getElem?_toArray]; exact wordsC_at op ho, by rw [hw]; exact (Below.refl _ _).alloc (Nat.le_refl _) _⟩
theorem word_any {B : Nat} (f : Ins) (op : Nat) (hop : f.what = op) (ho : op < 28) (w : World) (ht : Tb B w) (hB : B ≤ w.heap.size) :
    Calls Tryd.prog 46 #[insA f] w fun e w' => e = .returned (.string ⟨(wordT op f.nar).toArray⟩) ∧ Below w.heap.size w w' := by
  have HT := Lib.hid ht
  have hl := words_len op ho
  have hi1 : (op : Int) < 28 := by omega
  have hi0 : (0 : Int) ≤ (op : Int) := by omega
  obtain ⟨w0, e0, ⟨c0, c1, c2, c3, c4, c5, c6, c7, c8⟩, hz, hbb, hf⟩ := box_out f w
  have HT0 := Lib.hid (HT.out.keep (hbb.out.mono hB))
  generalize hW : wordsL.getD op [] = W at hl
  have HW := Lib.hid hW
  clear ht hW hf
  rw [hop] at e0 c1
  go_enter Tryd.func46, Tryd.ntmps46
  unfold insA insV
  rw [hop]
  clear hop
  go_wp2_with fail
  clear e0
  go_region_with ((go_at_call 59; refine (words_b _ HT0.out.drew).mono ?_; rintro _ w1 ⟨rfl, hcw, hb1⟩; have hcc : w1.cell? ⟨w0.heap.size, op, none⟩ = some (Value.string ⟨W.toArray⟩) := (by rw [← HW.out]; exact hcw op ho); have hc1 := keepc (w0 := w0.drew) hz hb1 c1; have hc2 := keepc (w0 := w0.drew) hz hb1 c2; have HB1 := Lib.hid (hbb.out.drew.trans (hb1.mono (show w.heap.size ≤ w0.heap.size by rw [hz.out]; simp))); clear hb1 hcw))
  all_goals
    by_cases hn : f.nar = true
    · rw [hn] at hc2
      go_wp2_with fail
      go_ret
      refine ⟨ret_str ?_, HB1.out⟩
      rw [wordT, HW.out, hn]
      exact mk_app _ _
    · have hn' : f.nar = false := by simpa using hn
      rw [hn'] at hc2
      go_wp2_with fail
      go_ret
      refine ⟨ret_str ?_, HB1.out⟩
      rw [wordT, HW.out, hn']
      simp
end Go.Proofs.YtdhfdlelnkoomaaDoor
