/-
  DERIVED. GIVEN WITH THE SEED: THE CARDS: each row of YtdhfdlelnkoomaaDoorRows.lean that lists a variable, with what it lists TIED to the program's text (the seventh form; the later family's looks); each row that meets fmt, with fmt's text TOLD by the authors' own Lean function (tested against real Go, not proved from fmt's source: count such statements apart). THE CARD IS WHAT COUNTS. Prove the row's statement (the work); the ties are given (YtdhfdlelnkoomaaDoorTie.lean); close each card by the builder's one call (the guide's Derived/Test/ToyasCard.lean, 'card_holds'). Laid BY PROGRAM, IN A SANDBOX (cutbox-door.mjs). By AI agents, Wed Nov 11 2026. No macro, syntax, notation, axiom, sorry.
-/
import Derived.Test.YtdhfdlelnkoomaaDoorRows
import GoSem.ClaimSeven
namespace Go.Proofs.YtdhfdlelnkoomaaDoor
namespace Rows

/-- THE TIED CARD OF 'barbicanlaw16.IrTells'. -/
def irTellsCard : Claim7 := { stood := { row := irTellsRow, standIns := [], harness := (true, "fec17a70852042de054c62c8d7c8497e113a199ea5ff44a15c5e6d700fe1ca8c"), looks := false }, kinds := [], alts := [], laidByText := true, laidKinds := [.data, .data, .data, .listed, .data], laidTests := true, laidLooks := .later }
def IrTellsCardSaid : Prop := Claim7.holds Tryd.pinned (.plain (OpenSpec.ofChange irTellsSpec)) irTellsCard

/-- THE TIED CARD OF 'barbicanlaw16.IrNumbers'. -/
def irNumbersCard : Claim7 := { stood := { row := irNumbersRow, standIns := [], harness := (true, "fec17a70852042de054c62c8d7c8497e113a199ea5ff44a15c5e6d700fe1ca8c"), looks := false }, kinds := [], alts := [], laidByText := true, laidKinds := [.data, .data, .data, .listed, .data], laidTests := true, laidLooks := .later }
def IrNumbersCardSaid : Prop := Claim7.holds Tryd.pinned (.plain (OpenSpec.ofChange irNumbersSpec)) irNumbersCard

/-- THE TIED CARD OF 'barbicanlaw16.IrApart'. -/
def irApartCard : Claim7 := { stood := { row := irApartRow, standIns := [], harness := (true, "fec17a70852042de054c62c8d7c8497e113a199ea5ff44a15c5e6d700fe1ca8c"), looks := false }, kinds := [], alts := [], laidByText := true, laidKinds := [.data, .data, .data, .listed, .data], laidTests := true, laidLooks := .later }
def IrApartCardSaid : Prop := Claim7.holds Tryd.pinned (.plain (OpenSpec.ofChange irApartSpec)) irApartCard

/-- THE SECOND FORM's CARD OF 'barbicanlaw16.IrTells'. -/
def irTellsUptoCard : Claim7 := { stood := { row := irTellsUptoRow, standIns := [], harness := (true, "fec17a70852042de054c62c8d7c8497e113a199ea5ff44a15c5e6d700fe1ca8c"), looks := false }, kinds := [], alts := [], laidByText := true, laidKinds := [.data, .data, .data, .listed, .data], laidTests := true, laidLooks := .later }
def IrTellsUptoCardSaid : Prop := Claim7.holds Tryd.pinned (.plain (OpenSpec.upto irTellsSpec)) irTellsUptoCard

/-- THE SECOND FORM's CARD OF 'barbicanlaw16.IrNumbers'. -/
def irNumbersUptoCard : Claim7 := { stood := { row := irNumbersUptoRow, standIns := [], harness := (true, "fec17a70852042de054c62c8d7c8497e113a199ea5ff44a15c5e6d700fe1ca8c"), looks := false }, kinds := [], alts := [], laidByText := true, laidKinds := [.data, .data, .data, .listed, .data], laidTests := true, laidLooks := .later }
def IrNumbersUptoCardSaid : Prop := Claim7.holds Tryd.pinned (.plain (OpenSpec.upto irNumbersSpec)) irNumbersUptoCard

/-- THE SECOND FORM's CARD OF 'barbicanlaw16.IrApart'. -/
def irApartUptoCard : Claim7 := { stood := { row := irApartUptoRow, standIns := [], harness := (true, "fec17a70852042de054c62c8d7c8497e113a199ea5ff44a15c5e6d700fe1ca8c"), looks := false }, kinds := [], alts := [], laidByText := true, laidKinds := [.data, .data, .data, .listed, .data], laidTests := true, laidLooks := .later }
def IrApartUptoCardSaid : Prop := Claim7.holds Tryd.pinned (.plain (OpenSpec.upto irApartSpec)) irApartUptoCard
end Rows
end Go.Proofs.YtdhfdlelnkoomaaDoor
