/-
  DERIVED. GIVEN WITH THE SEED: THE CARDS: each row of YtcppbdlmcbjmeaaGreatDoorRows.lean that lists a variable, with what it lists TIED to the program's text (the seventh form; the later family's looks); each row that meets fmt, with fmt's text TOLD by the authors' own Lean function (tested against real Go, not proved from fmt's source: count such statements apart). THE CARD IS WHAT COUNTS. Prove the row's statement (the work); the ties are given (YtcppbdlmcbjmeaaGreatDoorTie.lean); close each card by the builder's one call (the guide's Derived/Test/ToyasCard.lean, 'card_holds'). Laid BY PROGRAM, IN A SANDBOX (cutbox-door.mjs). By AI agents, Wed Nov 11 2026. No macro, syntax, notation, axiom, sorry.
-/
import Derived.Test.YtcppbdlmcbjmeaaGreatDoorRows
import GoSem.ClaimSeven
namespace Go.Proofs.YtcppbdlmcbjmeaaGreatDoor
namespace Rows

/-- THE TIED CARD OF 'zoetropelaw21.SyntaxBack'. -/
def syntaxBackCard : Claim7 := { stood := { row := syntaxBackRow, standIns := [], harness := (true, "16adb5b550d7fc966faff424548e6e77897bc3a0d963f335acfca55a991e298e"), looks := true }, kinds := [], alts := [], laidByText := true, laidKinds := [.listed, .data], laidTests := true, laidLooks := .later }
def SyntaxBackCardSaid : Prop := Claim7.holds Tryz.pinned (.plain (OpenSpec.ofChange syntaxBackSpec)) syntaxBackCard

/-- THE TIED CARD OF 'zoetropelaw21.SyntaxMoves'. -/
def syntaxMovesCard : Claim7 := { stood := { row := syntaxMovesRow, standIns := [], harness := (true, "16adb5b550d7fc966faff424548e6e77897bc3a0d963f335acfca55a991e298e"), looks := true }, kinds := [], alts := [], laidByText := true, laidKinds := [.listed, .data], laidTests := true, laidLooks := .later }
def SyntaxMovesCardSaid : Prop := Claim7.holds Tryz.pinned (.plain (OpenSpec.ofChange syntaxMovesSpec)) syntaxMovesCard

/-- THE TIED CARD OF 'zoetropelaw21.SyntaxQps'. -/
def syntaxQpsCard : Claim7 := { stood := { row := syntaxQpsRow, standIns := [], harness := (true, "16adb5b550d7fc966faff424548e6e77897bc3a0d963f335acfca55a991e298e"), looks := true }, kinds := [], alts := [], laidByText := true, laidKinds := [.listed, .data], laidTests := true, laidLooks := .later }
def SyntaxQpsCardSaid : Prop := Claim7.holds Tryz.pinned (.plain (OpenSpec.ofChange syntaxQpsSpec)) syntaxQpsCard

/-- THE TIED CARD OF 'zoetropelaw21.SyntaxPcms'. -/
def syntaxPcmsCard : Claim7 := { stood := { row := syntaxPcmsRow, standIns := [], harness := (true, "16adb5b550d7fc966faff424548e6e77897bc3a0d963f335acfca55a991e298e"), looks := true }, kinds := [], alts := [], laidByText := true, laidKinds := [.listed, .data], laidTests := true, laidLooks := .later }
def SyntaxPcmsCardSaid : Prop := Claim7.holds Tryz.pinned (.plain (OpenSpec.ofChange syntaxPcmsSpec)) syntaxPcmsCard

/-- THE TIED CARD OF 'zoetropelaw21.SyntaxModes'. -/
def syntaxModesCard : Claim7 := { stood := { row := syntaxModesRow, standIns := [], harness := (true, "16adb5b550d7fc966faff424548e6e77897bc3a0d963f335acfca55a991e298e"), looks := true }, kinds := [], alts := [], laidByText := true, laidKinds := [.listed, .data], laidTests := true, laidLooks := .later }
def SyntaxModesCardSaid : Prop := Claim7.holds Tryz.pinned (.plain (OpenSpec.ofChange syntaxModesSpec)) syntaxModesCard

/-- THE TIED CARD OF 'zoetropelaw23.SliceBack'. -/
def sliceBackCard : Claim7 := { stood := { row := sliceBackRow, standIns := [], harness := (true, "16adb5b550d7fc966faff424548e6e77897bc3a0d963f335acfca55a991e298e"), looks := true }, kinds := [], alts := [], laidByText := true, laidKinds := [.listed, .data], laidTests := true, laidLooks := .later }
def SliceBackCardSaid : Prop := Claim7.holds Tryz.pinned (.plain (OpenSpec.ofChange sliceBackSpec)) sliceBackCard

/-- THE TIED CARD OF 'zoetropelaw23.SliceCuts'. -/
def sliceCutsCard : Claim7 := { stood := { row := sliceCutsRow, standIns := [], harness := (true, "16adb5b550d7fc966faff424548e6e77897bc3a0d963f335acfca55a991e298e"), looks := true }, kinds := [], alts := [], laidByText := true, laidKinds := [.listed, .data], laidTests := true, laidLooks := .later }
def SliceCutsCardSaid : Prop := Claim7.holds Tryz.pinned (.plain (OpenSpec.ofChange sliceCutsSpec)) sliceCutsCard

/-- THE TIED CARD OF 'zoetropelaw23.SliceEngines'. -/
def sliceEnginesCard : Claim7 := { stood := { row := sliceEnginesRow, standIns := [], harness := (true, "16adb5b550d7fc966faff424548e6e77897bc3a0d963f335acfca55a991e298e"), looks := true }, kinds := [], alts := [], laidByText := true, laidKinds := [.listed, .data], laidTests := true, laidLooks := .later }
def SliceEnginesCardSaid : Prop := Claim7.holds Tryz.pinned (.plain (OpenSpec.ofChange sliceEnginesSpec)) sliceEnginesCard

/-- THE SECOND FORM's CARD OF 'zoetropelaw21.SyntaxBack'. -/
def syntaxBackUptoCard : Claim7 := { stood := { row := syntaxBackUptoRow, standIns := [], harness := (true, "16adb5b550d7fc966faff424548e6e77897bc3a0d963f335acfca55a991e298e"), looks := true }, kinds := [], alts := [], laidByText := true, laidKinds := [.listed, .data], laidTests := true, laidLooks := .later }
def SyntaxBackUptoCardSaid : Prop := Claim7.holds Tryz.pinned (.plain (OpenSpec.upto syntaxBackSpec)) syntaxBackUptoCard

/-- THE SECOND FORM's CARD OF 'zoetropelaw21.SyntaxMoves'. -/
def syntaxMovesUptoCard : Claim7 := { stood := { row := syntaxMovesUptoRow, standIns := [], harness := (true, "16adb5b550d7fc966faff424548e6e77897bc3a0d963f335acfca55a991e298e"), looks := true }, kinds := [], alts := [], laidByText := true, laidKinds := [.listed, .data], laidTests := true, laidLooks := .later }
def SyntaxMovesUptoCardSaid : Prop := Claim7.holds Tryz.pinned (.plain (OpenSpec.upto syntaxMovesSpec)) syntaxMovesUptoCard

/-- THE SECOND FORM's CARD OF 'zoetropelaw21.SyntaxQps'. -/
def syntaxQpsUptoCard : Claim7 := { stood := { row := syntaxQpsUptoRow, standIns := [], harness := (true, "16adb5b550d7fc966faff424548e6e77897bc3a0d963f335acfca55a991e298e"), looks := true }, kinds := [], alts := [], laidByText := true, laidKinds := [.listed, .data], laidTests := true, laidLooks := .later }
def SyntaxQpsUptoCardSaid : Prop := Claim7.holds Tryz.pinned (.plain (OpenSpec.upto syntaxQpsSpec)) syntaxQpsUptoCard

/-- THE SECOND FORM's CARD OF 'zoetropelaw21.SyntaxPcms'. -/
def syntaxPcmsUptoCard : Claim7 := { stood := { row := syntaxPcmsUptoRow, standIns := [], harness := (true, "16adb5b550d7fc966faff424548e6e77897bc3a0d963f335acfca55a991e298e"), looks := true }, kinds := [], alts := [], laidByText := true, laidKinds := [.listed, .data], laidTests := true, laidLooks := .later }
def SyntaxPcmsUptoCardSaid : Prop := Claim7.holds Tryz.pinned (.plain (OpenSpec.upto syntaxPcmsSpec)) syntaxPcmsUptoCard

/-- THE SECOND FORM's CARD OF 'zoetropelaw21.SyntaxModes'. -/
def syntaxModesUptoCard : Claim7 := { stood := { row := syntaxModesUptoRow, standIns := [], harness := (true, "16adb5b550d7fc966faff424548e6e77897bc3a0d963f335acfca55a991e298e"), looks := true }, kinds := [], alts := [], laidByText := true, laidKinds := [.listed, .data], laidTests := true, laidLooks := .later }
def SyntaxModesUptoCardSaid : Prop := Claim7.holds Tryz.pinned (.plain (OpenSpec.upto syntaxModesSpec)) syntaxModesUptoCard

/-- THE SECOND FORM's CARD OF 'zoetropelaw23.SliceBack'. -/
def sliceBackUptoCard : Claim7 := { stood := { row := sliceBackUptoRow, standIns := [], harness := (true, "16adb5b550d7fc966faff424548e6e77897bc3a0d963f335acfca55a991e298e"), looks := true }, kinds := [], alts := [], laidByText := true, laidKinds := [.listed, .data], laidTests := true, laidLooks := .later }
def SliceBackUptoCardSaid : Prop := Claim7.holds Tryz.pinned (.plain (OpenSpec.upto sliceBackSpec)) sliceBackUptoCard

/-- THE SECOND FORM's CARD OF 'zoetropelaw23.SliceCuts'. -/
def sliceCutsUptoCard : Claim7 := { stood := { row := sliceCutsUptoRow, standIns := [], harness := (true, "16adb5b550d7fc966faff424548e6e77897bc3a0d963f335acfca55a991e298e"), looks := true }, kinds := [], alts := [], laidByText := true, laidKinds := [.listed, .data], laidTests := true, laidLooks := .later }
def SliceCutsUptoCardSaid : Prop := Claim7.holds Tryz.pinned (.plain (OpenSpec.upto sliceCutsSpec)) sliceCutsUptoCard

/-- THE SECOND FORM's CARD OF 'zoetropelaw23.SliceEngines'. -/
def sliceEnginesUptoCard : Claim7 := { stood := { row := sliceEnginesUptoRow, standIns := [], harness := (true, "16adb5b550d7fc966faff424548e6e77897bc3a0d963f335acfca55a991e298e"), looks := true }, kinds := [], alts := [], laidByText := true, laidKinds := [.listed, .data], laidTests := true, laidLooks := .later }
def SliceEnginesUptoCardSaid : Prop := Claim7.holds Tryz.pinned (.plain (OpenSpec.upto sliceEnginesSpec)) sliceEnginesUptoCard
end Rows
end Go.Proofs.YtcppbdlmcbjmeaaGreatDoor
