/-
  DERIVED. GIVEN WITH THE SEED: THE CARDS: each row of YtogjckengmkfiaaDoorRows.lean that lists a variable, with what it lists TIED to the program's text (the seventh form; the later family's looks); each row that meets fmt, with fmt's text TOLD by the authors' own Lean function (tested against real Go, not proved from fmt's source: count such statements apart). THE CARD IS WHAT COUNTS. Prove the row's statement (the work); the ties are given (YtogjckengmkfiaaDoorTie.lean); close each card by the builder's one call (the guide's Derived/Test/ToyasCard.lean, 'card_holds'). Laid BY PROGRAM, IN A SANDBOX (cutbox-door.mjs). By AI agents, Wed Nov 11 2026. No macro, syntax, notation, axiom, sorry.
-/
import Derived.Test.YtogjckengmkfiaaDoorRows
import GoSem.ClaimSeven
namespace Go.Proofs.YtogjckengmkfiaaDoor
namespace Rows

/-- THE TIED CARD OF 'reevelaw06.WordsCuts'. -/
def wordsCutsCard : Claim7 := { stood := { row := wordsCutsRow, standIns := [], harness := (true, "db1767484ccd69715ad3c53aa07c5112e543f27cf4a680c9fb933f8a7093207e"), looks := true }, kinds := [], alts := [], laidByText := true, laidKinds := [.data, .pinned], laidTests := true, laidLooks := .later }
def WordsCutsCardSaid : Prop := Claim7.holds Tryd.pinned (.plain (OpenSpec.ofChange wordsCutsSpec)) wordsCutsCard

/-- THE TIED CARD OF 'reevelaw06.WordsJoins'. -/
def wordsJoinsCard : Claim7 := { stood := { row := wordsJoinsRow, standIns := [], harness := (true, "db1767484ccd69715ad3c53aa07c5112e543f27cf4a680c9fb933f8a7093207e"), looks := true }, kinds := [], alts := [], laidByText := true, laidKinds := [.data, .pinned], laidTests := true, laidLooks := .later }
def WordsJoinsCardSaid : Prop := Claim7.holds Tryd.pinned (.plain (OpenSpec.ofChange wordsJoinsSpec)) wordsJoinsCard

/-- THE TIED CARD OF 'reevelaw06.WordsBack'. -/
def wordsBackCard : Claim7 := { stood := { row := wordsBackRow, standIns := [], harness := (true, "db1767484ccd69715ad3c53aa07c5112e543f27cf4a680c9fb933f8a7093207e"), looks := true }, kinds := [], alts := [], laidByText := true, laidKinds := [.data, .pinned], laidTests := true, laidLooks := .later }
def WordsBackCardSaid : Prop := Claim7.holds Tryd.pinned (.plain (OpenSpec.ofChange wordsBackSpec)) wordsBackCard

/-- THE TIED CARD OF 'reevelaw07.RowLines'. -/
def rowLinesCard : Claim7 := { stood := { row := rowLinesRow, standIns := [], harness := (true, "db1767484ccd69715ad3c53aa07c5112e543f27cf4a680c9fb933f8a7093207e"), looks := true }, kinds := [], alts := [], laidByText := true, laidKinds := [.data, .data, .data, .sentinel, .sentinel], laidTests := true, laidLooks := .later }
def RowLinesCardSaid : Prop := Claim7.holds Tryd.pinned (.plain (OpenSpec.ofChange rowLinesSpec)) rowLinesCard

/-- THE TIED CARD OF 'reevelaw07.RowBack'. -/
def rowBackCard : Claim7 := { stood := { row := rowBackRow, standIns := [], harness := (true, "db1767484ccd69715ad3c53aa07c5112e543f27cf4a680c9fb933f8a7093207e"), looks := true }, kinds := [], alts := [], laidByText := true, laidKinds := [.data, .data, .data, .sentinel, .sentinel], laidTests := true, laidLooks := .later }
def RowBackCardSaid : Prop := Claim7.holds Tryd.pinned (.plain (OpenSpec.ofChange rowBackSpec)) rowBackCard

/-- THE TIED CARD OF 'reevelaw05.DecNumbers'. -/
def decNumbersCard : Claim7 := { stood := { row := decNumbersRow, standIns := [], harness := (true, "db1767484ccd69715ad3c53aa07c5112e543f27cf4a680c9fb933f8a7093207e"), looks := true }, kinds := [], alts := [], laidByText := true, laidKinds := [.data, .data, .data, .data, .sentinel, .sentinel, .pinned], laidTests := true, laidLooks := .later }
def DecNumbersCardSaid : Prop := Claim7.holds Tryd.pinned (.plain (OpenSpec.ofChange decNumbersSpec)) decNumbersCard

/-- THE TIED CARD OF 'reevelaw08.ResAdds'. -/
def resAddsCard : Claim7 := { stood := { row := resAddsRow, standIns := [], harness := (true, "db1767484ccd69715ad3c53aa07c5112e543f27cf4a680c9fb933f8a7093207e"), looks := true }, kinds := [], alts := [], laidByText := true, laidKinds := [.data, .data, .data, .data, .sentinel, .sentinel, .pinned], laidTests := true, laidLooks := .later }
def ResAddsCardSaid : Prop := Claim7.holds Tryd.pinned (.plain (OpenSpec.ofChange resAddsSpec)) resAddsCard

/-- THE TIED CARD OF 'reevelaw08.ResTexts'. -/
def resTextsCard : Claim7 := { stood := { row := resTextsRow, standIns := [], harness := (true, "db1767484ccd69715ad3c53aa07c5112e543f27cf4a680c9fb933f8a7093207e"), looks := true }, kinds := [], alts := [], laidByText := true, laidKinds := [.data, .data, .data, .data, .sentinel, .sentinel, .pinned], laidTests := true, laidLooks := .later }
def ResTextsCardSaid : Prop := Claim7.holds Tryd.pinned (.plain (OpenSpec.ofChange resTextsSpec)) resTextsCard

/-- THE TIED CARD OF 'reevelaw08.ResBack'. -/
def resBackCard : Claim7 := { stood := { row := resBackRow, standIns := [], harness := (true, "db1767484ccd69715ad3c53aa07c5112e543f27cf4a680c9fb933f8a7093207e"), looks := true }, kinds := [], alts := [], laidByText := true, laidKinds := [.data, .data, .data, .data, .sentinel, .sentinel, .pinned], laidTests := true, laidLooks := .later }
def ResBackCardSaid : Prop := Claim7.holds Tryd.pinned (.plain (OpenSpec.ofChange resBackSpec)) resBackCard

/-- THE TIED CARD OF 'reevelaw08.ResOrders'. -/
def resOrdersCard : Claim7 := { stood := { row := resOrdersRow, standIns := [], harness := (true, "db1767484ccd69715ad3c53aa07c5112e543f27cf4a680c9fb933f8a7093207e"), looks := true }, kinds := [], alts := [], laidByText := true, laidKinds := [.data, .data, .data, .data, .sentinel, .sentinel, .pinned], laidTests := true, laidLooks := .later }
def ResOrdersCardSaid : Prop := Claim7.holds Tryd.pinned (.plain (OpenSpec.ofChange resOrdersSpec)) resOrdersCard

/-- THE TIED CARD OF 'reevelaw05.DecLists'. -/
def decListsCard : Claim7 := { stood := { row := decListsRow, standIns := [], harness := (true, "db1767484ccd69715ad3c53aa07c5112e543f27cf4a680c9fb933f8a7093207e"), looks := true }, kinds := [], alts := [], laidByText := true, laidKinds := [.data, .data, .data, .data, .sentinel, .sentinel, .pinned], laidTests := true, laidLooks := .later }
def DecListsCardSaid : Prop := Claim7.holds Tryd.pinned (.plain (OpenSpec.ofChange decListsSpec)) decListsCard

/-- THE TIED CARD OF 'reevelaw05.DecBack'. -/
def decBackCard : Claim7 := { stood := { row := decBackRow, standIns := [], harness := (true, "db1767484ccd69715ad3c53aa07c5112e543f27cf4a680c9fb933f8a7093207e"), looks := true }, kinds := [], alts := [], laidByText := true, laidKinds := [.data, .data, .data, .data, .sentinel, .sentinel, .pinned], laidTests := true, laidLooks := .later }
def DecBackCardSaid : Prop := Claim7.holds Tryd.pinned (.plain (OpenSpec.ofChange decBackSpec)) decBackCard

/-- THE SECOND FORM's CARD OF 'reevelaw06.WordsCuts'. -/
def wordsCutsUptoCard : Claim7 := { stood := { row := wordsCutsUptoRow, standIns := [], harness := (true, "db1767484ccd69715ad3c53aa07c5112e543f27cf4a680c9fb933f8a7093207e"), looks := true }, kinds := [], alts := [], laidByText := true, laidKinds := [.data, .pinned], laidTests := true, laidLooks := .later }
def WordsCutsUptoCardSaid : Prop := Claim7.holds Tryd.pinned (.plain (OpenSpec.upto wordsCutsSpec)) wordsCutsUptoCard

/-- THE SECOND FORM's CARD OF 'reevelaw06.WordsJoins'. -/
def wordsJoinsUptoCard : Claim7 := { stood := { row := wordsJoinsUptoRow, standIns := [], harness := (true, "db1767484ccd69715ad3c53aa07c5112e543f27cf4a680c9fb933f8a7093207e"), looks := true }, kinds := [], alts := [], laidByText := true, laidKinds := [.data, .pinned], laidTests := true, laidLooks := .later }
def WordsJoinsUptoCardSaid : Prop := Claim7.holds Tryd.pinned (.plain (OpenSpec.upto wordsJoinsSpec)) wordsJoinsUptoCard

/-- THE SECOND FORM's CARD OF 'reevelaw06.WordsBack'. -/
def wordsBackUptoCard : Claim7 := { stood := { row := wordsBackUptoRow, standIns := [], harness := (true, "db1767484ccd69715ad3c53aa07c5112e543f27cf4a680c9fb933f8a7093207e"), looks := true }, kinds := [], alts := [], laidByText := true, laidKinds := [.data, .pinned], laidTests := true, laidLooks := .later }
def WordsBackUptoCardSaid : Prop := Claim7.holds Tryd.pinned (.plain (OpenSpec.upto wordsBackSpec)) wordsBackUptoCard

/-- THE SECOND FORM's CARD OF 'reevelaw07.RowLines'. -/
def rowLinesUptoCard : Claim7 := { stood := { row := rowLinesUptoRow, standIns := [], harness := (true, "db1767484ccd69715ad3c53aa07c5112e543f27cf4a680c9fb933f8a7093207e"), looks := true }, kinds := [], alts := [], laidByText := true, laidKinds := [.data, .data, .data, .sentinel, .sentinel], laidTests := true, laidLooks := .later }
def RowLinesUptoCardSaid : Prop := Claim7.holds Tryd.pinned (.plain (OpenSpec.upto rowLinesSpec)) rowLinesUptoCard

/-- THE SECOND FORM's CARD OF 'reevelaw07.RowBack'. -/
def rowBackUptoCard : Claim7 := { stood := { row := rowBackUptoRow, standIns := [], harness := (true, "db1767484ccd69715ad3c53aa07c5112e543f27cf4a680c9fb933f8a7093207e"), looks := true }, kinds := [], alts := [], laidByText := true, laidKinds := [.data, .data, .data, .sentinel, .sentinel], laidTests := true, laidLooks := .later }
def RowBackUptoCardSaid : Prop := Claim7.holds Tryd.pinned (.plain (OpenSpec.upto rowBackSpec)) rowBackUptoCard

/-- THE SECOND FORM's CARD OF 'reevelaw05.DecNumbers'. -/
def decNumbersUptoCard : Claim7 := { stood := { row := decNumbersUptoRow, standIns := [], harness := (true, "db1767484ccd69715ad3c53aa07c5112e543f27cf4a680c9fb933f8a7093207e"), looks := true }, kinds := [], alts := [], laidByText := true, laidKinds := [.data, .data, .data, .data, .sentinel, .sentinel, .pinned], laidTests := true, laidLooks := .later }
def DecNumbersUptoCardSaid : Prop := Claim7.holds Tryd.pinned (.plain (OpenSpec.upto decNumbersSpec)) decNumbersUptoCard

/-- THE SECOND FORM's CARD OF 'reevelaw08.ResAdds'. -/
def resAddsUptoCard : Claim7 := { stood := { row := resAddsUptoRow, standIns := [], harness := (true, "db1767484ccd69715ad3c53aa07c5112e543f27cf4a680c9fb933f8a7093207e"), looks := true }, kinds := [], alts := [], laidByText := true, laidKinds := [.data, .data, .data, .data, .sentinel, .sentinel, .pinned], laidTests := true, laidLooks := .later }
def ResAddsUptoCardSaid : Prop := Claim7.holds Tryd.pinned (.plain (OpenSpec.upto resAddsSpec)) resAddsUptoCard

/-- THE SECOND FORM's CARD OF 'reevelaw08.ResTexts'. -/
def resTextsUptoCard : Claim7 := { stood := { row := resTextsUptoRow, standIns := [], harness := (true, "db1767484ccd69715ad3c53aa07c5112e543f27cf4a680c9fb933f8a7093207e"), looks := true }, kinds := [], alts := [], laidByText := true, laidKinds := [.data, .data, .data, .data, .sentinel, .sentinel, .pinned], laidTests := true, laidLooks := .later }
def ResTextsUptoCardSaid : Prop := Claim7.holds Tryd.pinned (.plain (OpenSpec.upto resTextsSpec)) resTextsUptoCard

/-- THE SECOND FORM's CARD OF 'reevelaw08.ResBack'. -/
def resBackUptoCard : Claim7 := { stood := { row := resBackUptoRow, standIns := [], harness := (true, "db1767484ccd69715ad3c53aa07c5112e543f27cf4a680c9fb933f8a7093207e"), looks := true }, kinds := [], alts := [], laidByText := true, laidKinds := [.data, .data, .data, .data, .sentinel, .sentinel, .pinned], laidTests := true, laidLooks := .later }
def ResBackUptoCardSaid : Prop := Claim7.holds Tryd.pinned (.plain (OpenSpec.upto resBackSpec)) resBackUptoCard

/-- THE SECOND FORM's CARD OF 'reevelaw08.ResOrders'. -/
def resOrdersUptoCard : Claim7 := { stood := { row := resOrdersUptoRow, standIns := [], harness := (true, "db1767484ccd69715ad3c53aa07c5112e543f27cf4a680c9fb933f8a7093207e"), looks := true }, kinds := [], alts := [], laidByText := true, laidKinds := [.data, .data, .data, .data, .sentinel, .sentinel, .pinned], laidTests := true, laidLooks := .later }
def ResOrdersUptoCardSaid : Prop := Claim7.holds Tryd.pinned (.plain (OpenSpec.upto resOrdersSpec)) resOrdersUptoCard

/-- THE SECOND FORM's CARD OF 'reevelaw05.DecLists'. -/
def decListsUptoCard : Claim7 := { stood := { row := decListsUptoRow, standIns := [], harness := (true, "db1767484ccd69715ad3c53aa07c5112e543f27cf4a680c9fb933f8a7093207e"), looks := true }, kinds := [], alts := [], laidByText := true, laidKinds := [.data, .data, .data, .data, .sentinel, .sentinel, .pinned], laidTests := true, laidLooks := .later }
def DecListsUptoCardSaid : Prop := Claim7.holds Tryd.pinned (.plain (OpenSpec.upto decListsSpec)) decListsUptoCard

/-- THE SECOND FORM's CARD OF 'reevelaw05.DecBack'. -/
def decBackUptoCard : Claim7 := { stood := { row := decBackUptoRow, standIns := [], harness := (true, "db1767484ccd69715ad3c53aa07c5112e543f27cf4a680c9fb933f8a7093207e"), looks := true }, kinds := [], alts := [], laidByText := true, laidKinds := [.data, .data, .data, .data, .sentinel, .sentinel, .pinned], laidTests := true, laidLooks := .later }
def DecBackUptoCardSaid : Prop := Claim7.holds Tryd.pinned (.plain (OpenSpec.upto decBackSpec)) decBackUptoCard
end Rows
end Go.Proofs.YtogjckengmkfiaaDoor
