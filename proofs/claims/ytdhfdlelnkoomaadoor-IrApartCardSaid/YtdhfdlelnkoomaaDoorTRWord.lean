/- The document's lines: word, line. -/
import Derived.Test.YtdhfdlelnkoomaaDoorTLine
namespace Go.Proofs.YtdhfdlelnkoomaaDoor
open Go.RowKit
set_option linter.unusedVariables false
set_option maxRecDepth 100000

def wordsR : List (List UInt8) := [[97, 100, 100], [115, 117, 98], [109, 117, 108], [100, 105, 118], [109, 111, 100], [97, 110, 100], [111, 114], [120, 111, 114], [115, 104, 108], [115, 104, 114], [115, 97, 114], [109, 111, 118], [110, 101, 103], [], [], [], [106, 101, 113], [106, 110, 101], [106, 103, 116], [106, 103, 101], [106, 108, 116], [106, 108, 101], [106, 115, 103, 116], [106, 115, 103, 101], [106, 115, 108, 116], [106, 115, 108, 101], [106, 115, 101, 116]]
theorem wordsR_at : ∀ op : Nat, op < 28 → ((1 ≤ op ∧ op ≤ 13) ∨ (17 ≤ op ∧ op ≤ 27)) → wordsR[op - 1]? = some (wordsL.getD op []) := by decide
def wordsRC : List Value := wordsR.map fun l => Value.string ⟨l.toArray⟩
theorem rword_any (op : Nat) (nar : Bool) (ho : (1 ≤ op ∧ op ≤ 13) ∨ (17 ≤ op ∧ op ≤ 27)) (w : World) :
    Calls Tryd.prog 49 #[.int .u8 (op : Int), .bool nar] w fun e w' => e = .returned (.string ⟨(wordT op nar).toArray⟩) ∧ Below w.heap.size w w' := by
  have hl := words_len op (by omega)
  have hcell : (w.alloc (.cells wordsRC.toArray 9)).cell? ⟨w.heap.size, op - 1, none⟩ = some (Value.string ⟨(wordsL.getD op []).toArray⟩) := by
    rw [World.cell?_alloc_new, List.getElem?_toArray, wordsRC, List.getElem?_map, wordsR_at op (by omega) ho]; rfl
  have hi0 : (0 : Int) ≤ (op : Int) - 1 := by omega
  have hi1 : (op : Int) - 1 < 27 := by omega
  have hi2 : (1 : Int) ≤ (op : Int) := by omega
  have hi3 : ((op : Int) - 1).toNat = op - 1 := by omega
  have hw : IntKind.u8.wrap ((op : Int) - 1) = (op : Int) - 1 := by rw [IntKind.wrap_u8]; omega
  have hb : Below w.heap.size w (w.alloc (.cells wordsRC.toArray 9)) := (Below.refl _ _).alloc (Nat.le_refl _) _
  have HW := Lib.hid (show wordT op nar = wordsL.getD op [] ++ (if nar then [51, 50] else []) from rfl)
  generalize wordsL.getD op [] = W at *
  obtain ⟨w0, e0⟩ : ∃ w0, w.alloc (.cells wordsRC.toArray 9) = w0 := ⟨_, rfl⟩
  rw [e0] at hcell hb
  have HB := Lib.hid hb
  clear ho hb
  simp only [wordsRC, wordsR, List.map_cons, List.map_nil] at e0
  by_cases hn : nar = true
  · subst hn
    go_enter Tryd.func49, Tryd.ntmps49
    go_wp2_with fail
    go_ret
    refine ⟨ret_str ?_, HB.out⟩
    rw [HW.out]
    exact mk_app _ _
  · obtain rfl : nar = false := by simpa using hn
    go_enter Tryd.func49, Tryd.ntmps49
    go_wp2_with fail
    go_ret
    refine ⟨ret_str ?_, HB.out⟩
    rw [HW.out]
    simp
end Go.Proofs.YtdhfdlelnkoomaaDoor
