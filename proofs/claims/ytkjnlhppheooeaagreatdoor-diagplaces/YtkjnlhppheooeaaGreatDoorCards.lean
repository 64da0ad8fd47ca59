/-
  DERIVED. GIVEN WITH THE SEED: THE CARDS: each row of YtkjnlhppheooeaaGreatDoorRows.lean that lists a variable, with what it lists TIED to the program's text (the seventh form; the later family's looks); each row that meets fmt, with fmt's text TOLD by the authors' own Lean function (tested against real Go, not proved from fmt's source: count such statements apart). THE CARD IS WHAT COUNTS. Prove the row's statement (the work); the ties are given (YtkjnlhppheooeaaGreatDoorTie.lean); close each card by the builder's one call (the guide's Derived/Test/ToyasCard.lean, 'card_holds'). Laid BY PROGRAM, IN A SANDBOX (cutbox-door.mjs). By AI agents, Wed Nov 11 2026. No macro, syntax, notation, axiom, sorry.
-/
import Derived.Test.YtkjnlhppheooeaaGreatDoorRows
import GoSem.ClaimSeven
namespace Go.Proofs.YtkjnlhppheooeaaGreatDoor
namespace Rows

/-- THE TIED CARD OF 'spruelaw12.DiagPlaces'. -/
def diagPlacesCard : Claim7 := { stood := { row := diagPlacesRow, standIns := [], harness := (true, "11be18bfb27c75c8681e468caf54d8da902eb9c5c90b7a4325eef78e3475bd52"), looks := false }, kinds := [], alts := [], laidByText := true, laidKinds := [.data, .data, .data], laidTests := true, laidLooks := .later }
def DiagPlacesCardSaid : Prop := Claim7.holds Tryz.pinned (.plain (OpenSpec.ofChange diagPlacesSpec)) diagPlacesCard

/-- THE SECOND FORM's CARD OF 'spruelaw12.DiagPlaces'. -/
def diagPlacesUptoCard : Claim7 := { stood := { row := diagPlacesUptoRow, standIns := [], harness := (true, "11be18bfb27c75c8681e468caf54d8da902eb9c5c90b7a4325eef78e3475bd52"), looks := false }, kinds := [], alts := [], laidByText := true, laidKinds := [.data, .data, .data], laidTests := true, laidLooks := .later }
def DiagPlacesUptoCardSaid : Prop := Claim7.holds Tryz.pinned (.plain (OpenSpec.upto diagPlacesSpec)) diagPlacesUptoCard
end Rows
end Go.Proofs.YtkjnlhppheooeaaGreatDoor
