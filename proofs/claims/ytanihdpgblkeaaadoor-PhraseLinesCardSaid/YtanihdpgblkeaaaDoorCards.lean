/-
  DERIVED. GIVEN WITH THE SEED: THE CARDS: each row of YtanihdpgblkeaaaDoorRows.lean that lists a variable, with what it lists TIED to the program's text (the seventh form; the later family's looks); each row that meets fmt, with fmt's text TOLD by the authors' own Lean function (tested against real Go, not proved from fmt's source: count such statements apart). THE CARD IS WHAT COUNTS. Prove the row's statement (the work); the ties are given (YtanihdpgblkeaaaDoorTie.lean); close each card by the builder's one call (the guide's Derived/Test/ToyasCard.lean, 'card_holds'). Laid BY PROGRAM, IN A SANDBOX (cutbox-door.mjs). By AI agents, Wed Nov 11 2026. No macro, syntax, notation, axiom, sorry.
-/
import Derived.Test.YtanihdpgblkeaaaDoorRows
import GoSem.ClaimSeven
namespace Go.Proofs.YtanihdpgblkeaaaDoor
namespace Rows

/-- THE TIED CARD OF 'reevelaw19.PhraseLines'. -/
def phraseLinesCard : Claim7 := { stood := { row := phraseLinesRow, standIns := [], harness := (true, "6a07e1b09581e26af6f01c3c58e8e9f6cb1083161af084bd0982f274b2b6b465"), looks := true }, kinds := [], alts := [], laidByText := true, laidKinds := [.data, .data, .data, .sentinel, .sentinel, .widerDeep], laidTests := true, laidLooks := .later }
def PhraseLinesCardSaid : Prop := Claim7.holds Tryd.pinned (.plain (OpenSpec.ofChange phraseLinesSpec)) phraseLinesCard

/-- THE SECOND FORM's CARD OF 'reevelaw19.PhraseLines'. -/
def phraseLinesUptoCard : Claim7 := { stood := { row := phraseLinesUptoRow, standIns := [], harness := (true, "6a07e1b09581e26af6f01c3c58e8e9f6cb1083161af084bd0982f274b2b6b465"), looks := true }, kinds := [], alts := [], laidByText := true, laidKinds := [.data, .data, .data, .sentinel, .sentinel, .widerDeep], laidTests := true, laidLooks := .later }
def PhraseLinesUptoCardSaid : Prop := Claim7.holds Tryd.pinned (.plain (OpenSpec.upto phraseLinesSpec)) phraseLinesUptoCard
end Rows
end Go.Proofs.YtanihdpgblkeaaaDoor
