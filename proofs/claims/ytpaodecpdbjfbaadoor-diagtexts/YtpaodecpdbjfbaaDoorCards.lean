/-
  DERIVED. GIVEN WITH THE SEED: THE CARDS: each row of YtpaodecpdbjfbaaDoorRows.lean that lists a variable, with what it lists TIED to the program's text (the seventh form; the later family's looks); each row that meets fmt, with fmt's text TOLD by the authors' own Lean function (tested against real Go, not proved from fmt's source: count such statements apart). THE CARD IS WHAT COUNTS. Prove the row's statement (the work); the ties are given (YtpaodecpdbjfbaaDoorTie.lean); close each card by the builder's one call (the guide's Derived/Test/ToyasCard.lean, 'card_holds'). Laid BY PROGRAM, IN A SANDBOX (cutbox-door.mjs). By AI agents, Wed Nov 11 2026. No macro, syntax, notation, axiom, sorry.
-/
import Derived.Test.YtpaodecpdbjfbaaDoorRows
import GoSem.ClaimSeven
namespace Go.Proofs.YtpaodecpdbjfbaaDoor
namespace Rows

/-- THE TIED CARD OF 'spruelaw12.DiagTexts'. -/
def diagTextsCard : Claim7 := { stood := { row := diagTextsRow, standIns := [], harness := (true, "6ef820c498256b9b30d5a0910b7bc3b9ec355b85a36b345180f7b9bef1c898c9"), looks := false }, kinds := [], alts := [], laidByText := true, laidKinds := [.data, .data, .data], laidTests := true, laidLooks := .later }
def DiagTextsCardSaid : Prop := Claim7.holds Tryd.pinned (.plain (OpenSpec.ofChange diagTextsSpec)) diagTextsCard

/-- THE TIED CARD OF 'spruelaw12.DiagWords'. -/
def diagWordsCard : Claim7 := { stood := { row := diagWordsRow, standIns := [], harness := (true, "6ef820c498256b9b30d5a0910b7bc3b9ec355b85a36b345180f7b9bef1c898c9"), looks := false }, kinds := [], alts := [], laidByText := true, laidKinds := [.data, .data, .data], laidTests := true, laidLooks := .later }
def DiagWordsCardSaid : Prop := Claim7.holds Tryd.pinned (.plain (OpenSpec.ofChange diagWordsSpec)) diagWordsCard

/-- THE SECOND FORM's CARD OF 'spruelaw12.DiagTexts'. -/
def diagTextsUptoCard : Claim7 := { stood := { row := diagTextsUptoRow, standIns := [], harness := (true, "6ef820c498256b9b30d5a0910b7bc3b9ec355b85a36b345180f7b9bef1c898c9"), looks := false }, kinds := [], alts := [], laidByText := true, laidKinds := [.data, .data, .data], laidTests := true, laidLooks := .later }
def DiagTextsUptoCardSaid : Prop := Claim7.holds Tryd.pinned (.plain (OpenSpec.upto diagTextsSpec)) diagTextsUptoCard

/-- THE SECOND FORM's CARD OF 'spruelaw12.DiagWords'. -/
def diagWordsUptoCard : Claim7 := { stood := { row := diagWordsUptoRow, standIns := [], harness := (true, "6ef820c498256b9b30d5a0910b7bc3b9ec355b85a36b345180f7b9bef1c898c9"), looks := false }, kinds := [], alts := [], laidByText := true, laidKinds := [.data, .data, .data], laidTests := true, laidLooks := .later }
def DiagWordsUptoCardSaid : Prop := Claim7.holds Tryd.pinned (.plain (OpenSpec.upto diagWordsSpec)) diagWordsUptoCard
end Rows
end Go.Proofs.YtpaodecpdbjfbaaDoor
