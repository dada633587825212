/- markText: over this seat's program. -/
import Derived.Test.YtcmbeolicopicaaGreatKFlatB
import Derived.Test.YtcmbeolicopicaaGreatZ8
namespace Go.Proofs.YtcmbeolicopicaaGreat
open Go.RowKit
set_option linter.unusedVariables false
set_option maxRecDepth 100000

def mtl (k i : Int) : List Int := [35, k % 256, k / 256 % 256, k / 65536 % 256, 47, i % 256, i / 256 % 256, i / 65536 % 256]
/-- The mark of a text. -/
def mtx (k i : Int) : List UInt8 := tB (mtl k i)
theorem markText_any (k i : Int) (w : World) (h0 : 0 ≤ k) (h1 : k ≤ 1000000000) (h2 : 0 ≤ i) (h3 : i ≤ 1000000000000000) :
    Calls Tryz.prog 103 #[.int .i64 k, .int .i64 i] w fun e w' => e = .returned (.string ⟨(mtx k i).toArray⟩) ∧ Below w.heap.size w w' := by
  have hb : bI (mtx k i) = mtl k i := bI_tB fun x hx => by
    simp only [mtl, List.mem_cons, List.not_mem_nil, or_false] at hx
    omega
  have hcv : (convert 29 9 (.slice (some ⟨w.heap.size, 0, none⟩) 8 8)).run Tryz.prog (w.alloc (.cells #[.int .u8 35, .int .u8 (k % 256), .int .u8 (k / 256 % 256), .int .u8 (k / 65536 % 256), .int .u8 47, .int .u8 (i % 256), .int .u8 (i / 256 % 256), .int .u8 (i / 65536 % 256)] 5)) = .ok (.string ⟨(mtx k i).toArray⟩) (w.alloc (.cells #[.int .u8 35, .int .u8 (k % 256), .int .u8 (k / 256 % 256), .int .u8 (k / 65536 % 256), .int .u8 47, .int .u8 (i % 256), .int .u8 (i / 256 % 256), .int .u8 (i / 65536 % 256)] 5)) :=
    conv_text (mtx k i) (K := fun b => b = w.heap.size) (by rw [hb]; exact rd_new w 5 (u8s (mtl k i)))
  clear hb
  go_enter Tryz.func103, Tryz.ntmps103
  go_wp2_with fail
  go_ret
  exact ⟨rfl, (Below.refl _ _).alloc (Nat.le_refl _) _⟩
/-- .. by a name. -/
theorem mt_call (k i : Int) (s : ByteArray) (w : World) (h0 : 0 ≤ k) (h1 : k ≤ 1000000000) (h2 : 0 ≤ i) (h3 : i ≤ 1000000000000000) (hs : Hid (s = ⟨(mtx k i).toArray⟩)) :
    Calls Tryz.prog 103 #[.int .i64 k, .int .i64 i] w fun e w' => e = .returned (.string s) ∧ Below w.heap.size w w' := by
  rw [hs.out]
  exact markText_any k i w h0 h1 h2 h3
def mkT (k i : Nat) : List Value := [.string ⟨(mtx k i).toArray⟩]
theorem mkT_len (k i : Nat) : (mkT k i).length = 1 := rfl
theorem slT_info : (Tryz.prog.info? 56).map (fun i => (i.zero, i.size, i.bytes)) = some (some (.slice none 0 0), 1, 24) := by kernel_rfl
theorem txt_info : (Tryz.prog.info? 9).map (fun i => (i.zero, i.size, i.bytes)) = some (some (.string ⟨#[]⟩), 1, 16) := by kernel_rfl
end Go.Proofs.YtcmbeolicopicaaGreat

