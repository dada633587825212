/- text, the walk: a word's method. -/
import Derived.Test.YtjebjninlejoeaaGreatDoorX30
namespace Go.Proofs.YtjebjninlejoeaaGreatDoor
open Go.RowKit Go.Maps Go.ChangeMaps
set_option linter.unusedVariables false
set_option linter.unusedSimpArgs false
set_option linter.unusedSectionVars false
set_option maxRecDepth 100000

theorem rest_any {w : World} {R N : Nat} {K : Nat → Prop} {i : IV} {l : List Nm} {n : Int} {B : Nat} (h : RdAt w R N K i [] l n) (hv : Tv B w) (hB : B ≤ w.heap.size) (hN : B ≤ N) (hR : B ≤ R) (k : Kind) : Calls Tryz.prog (kindF k) #[.pointer (some ⟨R, 0, none⟩)] w fun x w' => RdR R N K n w (restT i l k) (.tuple #[]) x w' := by
  cases k with
  | alu => exact alu_any h hv hN hR
  | neg => exact neg_any h hv hN hR
  | ask => exact ask_any h hv hN hR
  | load => exact load_any h hv hN hR
  | put => exact put_any h hv hN hR
  | far => exact far_any h hv hN hR
  | exit => exact (exit_any R w).mono fun x w' ⟨e1, e2⟩ => by subst e2; exact ⟨e1, h, Ag.refl _ _⟩
end Go.Proofs.YtjebjninlejoeaaGreatDoor

