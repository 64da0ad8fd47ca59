/-
  DERIVED. GIVEN WITH THE SEED: THE CARDS: each row of YtdapogfnhpbanaaGreatDoorRows.lean that lists a variable, with what it lists TIED to the program's text (the seventh form; the later family's looks); each row that meets fmt, with fmt's text TOLD by the authors' own Lean function (tested against real Go, not proved from fmt's source: count such statements apart). THE CARD IS WHAT COUNTS. Prove the row's statement (the work); the ties are given (YtdapogfnhpbanaaGreatDoorTie.lean); close each card by the builder's one call (the guide's Derived/Test/ToyasCard.lean, 'card_holds'). Laid BY PROGRAM, IN A SANDBOX (cutbox-door.mjs). By AI agents, Wed Nov 11 2026. No macro, syntax, notation, axiom, sorry.
-/
import Derived.Test.YtdapogfnhpbanaaGreatDoorRows
import GoSem.ClaimSeven
namespace Go.Proofs.YtdapogfnhpbanaaGreatDoor
namespace Rows

/-- THE TIED CARD OF 'spruelaw12.DiagTypes'. -/
def diagTypesCard : Claim7 := { stood := { row := diagTypesRow, standIns := [], harness := (true, "e21a6fb38967617b9b397afc7d716166b311e769984b1b6ae3dd6e1abe1d725e"), looks := false }, kinds := [], alts := [], laidByText := true, laidKinds := [.data, .data, .data], laidTests := true, laidLooks := .later }
def DiagTypesCardSaid : Prop := Claim7.holds Tryz.pinned (.plain (OpenSpec.ofChange diagTypesSpec)) diagTypesCard

/-- THE TIED CARD OF 'spruelaw12.DiagSignatures'. -/
def diagSignaturesCard : Claim7 := { stood := { row := diagSignaturesRow, standIns := [], harness := (true, "e21a6fb38967617b9b397afc7d716166b311e769984b1b6ae3dd6e1abe1d725e"), looks := false }, kinds := [], alts := [], laidByText := true, laidKinds := [.data, .data, .data], laidTests := true, laidLooks := .later }
def DiagSignaturesCardSaid : Prop := Claim7.holds Tryz.pinned (.plain (OpenSpec.ofChange diagSignaturesSpec)) diagSignaturesCard

/-- THE SECOND FORM's CARD OF 'spruelaw12.DiagTypes'. -/
def diagTypesUptoCard : Claim7 := { stood := { row := diagTypesUptoRow, standIns := [], harness := (true, "e21a6fb38967617b9b397afc7d716166b311e769984b1b6ae3dd6e1abe1d725e"), looks := false }, kinds := [], alts := [], laidByText := true, laidKinds := [.data, .data, .data], laidTests := true, laidLooks := .later }
def DiagTypesUptoCardSaid : Prop := Claim7.holds Tryz.pinned (.plain (OpenSpec.upto diagTypesSpec)) diagTypesUptoCard

/-- THE SECOND FORM's CARD OF 'spruelaw12.DiagSignatures'. -/
def diagSignaturesUptoCard : Claim7 := { stood := { row := diagSignaturesUptoRow, standIns := [], harness := (true, "e21a6fb38967617b9b397afc7d716166b311e769984b1b6ae3dd6e1abe1d725e"), looks := false }, kinds := [], alts := [], laidByText := true, laidKinds := [.data, .data, .data], laidTests := true, laidLooks := .later }
def DiagSignaturesUptoCardSaid : Prop := Claim7.holds Tryz.pinned (.plain (OpenSpec.upto diagSignaturesSpec)) diagSignaturesUptoCard
end Rows
end Go.Proofs.YtdapogfnhpbanaaGreatDoor
