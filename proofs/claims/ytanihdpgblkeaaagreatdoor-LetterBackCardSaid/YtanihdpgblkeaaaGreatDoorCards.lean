/-
  DERIVED. GIVEN WITH THE SEED: THE CARDS: each row of YtanihdpgblkeaaaGreatDoorRows.lean that lists a variable, with what it lists TIED to the program's text (the seventh form; the later family's looks); each row that meets fmt, with fmt's text TOLD by the authors' own Lean function (tested against real Go, not proved from fmt's source: count such statements apart). THE CARD IS WHAT COUNTS. Prove the row's statement (the work); the ties are given (YtanihdpgblkeaaaGreatDoorTie.lean); close each card by the builder's one call (the guide's Derived/Test/ToyasCard.lean, 'card_holds'). Laid BY PROGRAM, IN A SANDBOX (cutbox-door.mjs). By AI agents, Wed Nov 11 2026. No macro, syntax, notation, axiom, sorry.
-/
import Derived.Test.YtanihdpgblkeaaaGreatDoorRows
import GoSem.ClaimSeven
namespace Go.Proofs.YtanihdpgblkeaaaGreatDoor
namespace Rows

/-- THE TIED CARD OF 'reevelaw36.LetterLines'. -/
def letterLinesCard : Claim7 := { stood := { row := letterLinesRow, standIns := [], harness := (true, "0e14e8a0af3d894e83e1dca8944ce73ff3b6a8baeb1585702b3a4c92cb78d3fe"), looks := true }, kinds := [], alts := [], laidByText := true, laidKinds := [.data, .data, .data, .sentinel, .sentinel, .data, .widerDeep], laidTests := true, laidLooks := .later }
def LetterLinesCardSaid : Prop := Claim7.holds Tryz.pinned (.plain (OpenSpec.ofChange letterLinesSpec)) letterLinesCard

/-- THE TIED CARD OF 'reevelaw19.PhraseTexts'. -/
def phraseTextsCard : Claim7 := { stood := { row := phraseTextsRow, standIns := [], harness := (true, "0e14e8a0af3d894e83e1dca8944ce73ff3b6a8baeb1585702b3a4c92cb78d3fe"), looks := true }, kinds := [], alts := [], laidByText := true, laidKinds := [.data, .data, .data, .data, .sentinel, .sentinel, .widerDeep, .pinned], laidTests := true, laidLooks := .later }
def PhraseTextsCardSaid : Prop := Claim7.holds Tryz.pinned (.plain (OpenSpec.ofChange phraseTextsSpec)) phraseTextsCard

/-- THE TIED CARD OF 'reevelaw19.PhraseBack'. -/
def phraseBackCard : Claim7 := { stood := { row := phraseBackRow, standIns := [], harness := (true, "0e14e8a0af3d894e83e1dca8944ce73ff3b6a8baeb1585702b3a4c92cb78d3fe"), looks := true }, kinds := [], alts := [], laidByText := true, laidKinds := [.data, .data, .data, .data, .sentinel, .sentinel, .widerDeep, .pinned], laidTests := true, laidLooks := .later }
def PhraseBackCardSaid : Prop := Claim7.holds Tryz.pinned (.plain (OpenSpec.ofChange phraseBackSpec)) phraseBackCard

/-- THE TIED CARD OF 'reevelaw36.LetterTexts'. -/
def letterTextsCard : Claim7 := { stood := { row := letterTextsRow, standIns := [], harness := (true, "0e14e8a0af3d894e83e1dca8944ce73ff3b6a8baeb1585702b3a4c92cb78d3fe"), looks := true }, kinds := [], alts := [], laidByText := true, laidKinds := [.data, .data, .data, .data, .sentinel, .sentinel, .data, .widerDeep, .pinned], laidTests := true, laidLooks := .later }
def LetterTextsCardSaid : Prop := Claim7.holds Tryz.pinned (.plain (OpenSpec.ofChange letterTextsSpec)) letterTextsCard

/-- THE TIED CARD OF 'reevelaw36.LetterBack'. -/
def letterBackCard : Claim7 := { stood := { row := letterBackRow, standIns := [], harness := (true, "0e14e8a0af3d894e83e1dca8944ce73ff3b6a8baeb1585702b3a4c92cb78d3fe"), looks := true }, kinds := [], alts := [], laidByText := true, laidKinds := [.data, .data, .data, .data, .sentinel, .sentinel, .data, .widerDeep, .pinned], laidTests := true, laidLooks := .later }
def LetterBackCardSaid : Prop := Claim7.holds Tryz.pinned (.plain (OpenSpec.ofChange letterBackSpec)) letterBackCard

/-- THE SECOND FORM's CARD OF 'reevelaw36.LetterLines'. -/
def letterLinesUptoCard : Claim7 := { stood := { row := letterLinesUptoRow, standIns := [], harness := (true, "0e14e8a0af3d894e83e1dca8944ce73ff3b6a8baeb1585702b3a4c92cb78d3fe"), looks := true }, kinds := [], alts := [], laidByText := true, laidKinds := [.data, .data, .data, .sentinel, .sentinel, .data, .widerDeep], laidTests := true, laidLooks := .later }
def LetterLinesUptoCardSaid : Prop := Claim7.holds Tryz.pinned (.plain (OpenSpec.upto letterLinesSpec)) letterLinesUptoCard

/-- THE SECOND FORM's CARD OF 'reevelaw19.PhraseTexts'. -/
def phraseTextsUptoCard : Claim7 := { stood := { row := phraseTextsUptoRow, standIns := [], harness := (true, "0e14e8a0af3d894e83e1dca8944ce73ff3b6a8baeb1585702b3a4c92cb78d3fe"), looks := true }, kinds := [], alts := [], laidByText := true, laidKinds := [.data, .data, .data, .data, .sentinel, .sentinel, .widerDeep, .pinned], laidTests := true, laidLooks := .later }
def PhraseTextsUptoCardSaid : Prop := Claim7.holds Tryz.pinned (.plain (OpenSpec.upto phraseTextsSpec)) phraseTextsUptoCard

/-- THE SECOND FORM's CARD OF 'reevelaw19.PhraseBack'. -/
def phraseBackUptoCard : Claim7 := { stood := { row := phraseBackUptoRow, standIns := [], harness := (true, "0e14e8a0af3d894e83e1dca8944ce73ff3b6a8baeb1585702b3a4c92cb78d3fe"), looks := true }, kinds := [], alts := [], laidByText := true, laidKinds := [.data, .data, .data, .data, .sentinel, .sentinel, .widerDeep, .pinned], laidTests := true, laidLooks := .later }
def PhraseBackUptoCardSaid : Prop := Claim7.holds Tryz.pinned (.plain (OpenSpec.upto phraseBackSpec)) phraseBackUptoCard

/-- THE SECOND FORM's CARD OF 'reevelaw36.LetterTexts'. -/
def letterTextsUptoCard : Claim7 := { stood := { row := letterTextsUptoRow, standIns := [], harness := (true, "0e14e8a0af3d894e83e1dca8944ce73ff3b6a8baeb1585702b3a4c92cb78d3fe"), looks := true }, kinds := [], alts := [], laidByText := true, laidKinds := [.data, .data, .data, .data, .sentinel, .sentinel, .data, .widerDeep, .pinned], laidTests := true, laidLooks := .later }
def LetterTextsUptoCardSaid : Prop := Claim7.holds Tryz.pinned (.plain (OpenSpec.upto letterTextsSpec)) letterTextsUptoCard

/-- THE SECOND FORM's CARD OF 'reevelaw36.LetterBack'. -/
def letterBackUptoCard : Claim7 := { stood := { row := letterBackUptoRow, standIns := [], harness := (true, "0e14e8a0af3d894e83e1dca8944ce73ff3b6a8baeb1585702b3a4c92cb78d3fe"), looks := true }, kinds := [], alts := [], laidByText := true, laidKinds := [.data, .data, .data, .data, .sentinel, .sentinel, .data, .widerDeep, .pinned], laidTests := true, laidLooks := .later }
def LetterBackUptoCardSaid : Prop := Claim7.holds Tryz.pinned (.plain (OpenSpec.upto letterBackSpec)) letterBackUptoCard
end Rows
end Go.Proofs.YtanihdpgblkeaaaGreatDoor
