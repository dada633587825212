/- text, the walk: a cell's text. -/
import Derived.Test.YtjebjninlejoeaaGreatDoorX14
namespace Go.Proofs.YtjebjninlejoeaaGreatDoor
open Go.RowKit Go.Maps Go.ChangeMaps
set_option linter.unusedVariables false
set_option linter.unusedSimpArgs false
set_option linter.unusedSectionVars false
set_option maxRecDepth 100000

theorem regN_len {n : Int} (h : I64 n) : (regN n).length ≤ 22 := by
  have := Lib.itoa_length_le n h.1 h.2
  unfold regN
  simp; omega
theorem apart_len2 {n : Int} (h : -9223372036854775807 ≤ n ∧ n ≤ 9223372036854775807) (b : Nm) : (apartS n b).length ≤ 22 + b.length := by
  have h1 := Lib.itoa_length_le n (by omega) (by omega)
  have h2 := Lib.itoa_length_le (-n) (by omega) (by omega)
  unfold apartS
  split <;> simp <;> omega
theorem scell_any {B : Nat} (n off : Int) (hn : I64 n) (ho : -9223372036854775807 ≤ off ∧ off ≤ 9223372036854775807) (w : World) (hv : Tv B w) (hB : B ≤ w.heap.size) : Calls Tryz.prog 102 #[.int .i64 n, .int .i64 off] w fun e w' => e = .returned (.string ⟨(cellS n off).toArray⟩) ∧ Below w.heap.size w w' := by
  have hcon := name_any n hn w hv
  have l1 := regN_len hn
  have l2 := apart_len2 ho [32]
  have hc1 : ((⟨#[91]⟩ : ByteArray) ++ ⟨(regN n).toArray⟩) = ⟨(91 :: regN n).toArray⟩ := cat_is [91] _
  have hc2 : ((⟨(91 :: regN n).toArray⟩ : ByteArray) ++ ⟨#[32]⟩) = ⟨((91 :: regN n) ++ [32]).toArray⟩ := cat_is _ [32]
  have hc3 : ((⟨((91 :: regN n) ++ [32]).toArray⟩ : ByteArray) ++ ⟨(apartS off [32]).toArray⟩) = ⟨(((91 :: regN n) ++ [32]) ++ apartS off [32]).toArray⟩ := cat_is _ _
  have hc4 : ((⟨(((91 :: regN n) ++ [32]) ++ apartS off [32]).toArray⟩ : ByteArray) ++ ⟨#[93]⟩) = ⟨((((91 :: regN n) ++ [32]) ++ apartS off [32]) ++ [93]).toArray⟩ := cat_is _ [93]
  have hF : cellS n off = (((91 :: regN n) ++ [32]) ++ apartS off [32]) ++ [93] := by unfold cellS; simp
  rw [hF]
  simp only [List.length_cons, List.length_nil] at l2
  have hcon2 := fun (W : World) (hW : Tv B W) => apart_any off ho [32] (by decide) W hW
  generalize apartS off [32] = ap at *
  generalize regN n = rg at *
  go_enter Tryz.func102, Tryz.ntmps102
  go_wp2_with fail
  (with_reducible refine hcon.mono ?_)
  rintro _ w1 ⟨rfl, b1⟩
  have g1 : ¬ 9223372036854775807 < 1 + rg.length := by omega
  have g2 : ¬ 9223372036854775807 < rg.length + 1 + 1 := by omega
  have g3 : ¬ 9223372036854775807 < rg.length + 1 + 1 + ap.length := by omega
  have g4 : ¬ 9223372036854775807 < rg.length + 1 + 1 + ap.length + 1 := by omega
  go_wp2_with fail
  (with_reducible refine (hcon2 w1 (hv.below b1 hB)).mono ?_)
  rintro _ w2 ⟨rfl, b2⟩
  go_wp2_with fail
  go_ret
  refine ⟨?_, b1.trans (b2.mono b1.size)⟩
  show Ending.returned (Value.string _) = Ending.returned (Value.string _)
  congr 2
end Go.Proofs.YtjebjninlejoeaaGreatDoor

