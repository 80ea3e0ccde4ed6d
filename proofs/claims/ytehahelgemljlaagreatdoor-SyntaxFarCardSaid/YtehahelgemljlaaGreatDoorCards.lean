/-
  DERIVED. GIVEN WITH THE SEED: THE CARDS: each row of YtehahelgemljlaaGreatDoorRows.lean that lists a variable, with what it lists TIED to the program's text (the seventh form; the later family's looks); each row that meets fmt, with fmt's text TOLD by the authors' own Lean function (tested against real Go, not proved from fmt's source: count such statements apart). THE CARD IS WHAT COUNTS. Prove the row's statement (the work); the ties are given (YtehahelgemljlaaGreatDoorTie.lean); close each card by the builder's one call (the guide's Derived/Test/ToyasCard.lean, 'card_holds'). Laid BY PROGRAM, IN A SANDBOX (cutbox-door.mjs). By AI agents, Wed Nov 11 2026. No macro, syntax, notation, axiom, sorry.
-/
import Derived.Test.YtehahelgemljlaaGreatDoorRows
import GoSem.ClaimSeven
namespace Go.Proofs.YtehahelgemljlaaGreatDoor
namespace Rows

/-- THE TIED CARD OF 'zoetropelaw21.SyntaxSkips'. -/
def syntaxSkipsCard : Claim7 := { stood := { row := syntaxSkipsRow, standIns := [], harness := (true, "8eeee292ee71231976477ad424e0277417542b1f7f6b7a7efc7441117474fa7d"), looks := true }, kinds := [], alts := [], laidByText := true, laidKinds := [.listed, .data], laidTests := true, laidLooks := .later }
def SyntaxSkipsCardSaid : Prop := Claim7.holds Tryz.pinned (.plain (OpenSpec.ofChange syntaxSkipsSpec)) syntaxSkipsCard

/-- THE TIED CARD OF 'zoetropelaw21.SyntaxFar'. -/
def syntaxFarCard : Claim7 := { stood := { row := syntaxFarRow, standIns := [], harness := (true, "8eeee292ee71231976477ad424e0277417542b1f7f6b7a7efc7441117474fa7d"), looks := true }, kinds := [], alts := [], laidByText := true, laidKinds := [.listed, .data], laidTests := true, laidLooks := .later }
def SyntaxFarCardSaid : Prop := Claim7.holds Tryz.pinned (.plain (OpenSpec.ofChange syntaxFarSpec)) syntaxFarCard

/-- THE TIED CARD OF 'zoetropelaw23.SliceCounts'. -/
def sliceCountsCard : Claim7 := { stood := { row := sliceCountsRow, standIns := [], harness := (true, "8eeee292ee71231976477ad424e0277417542b1f7f6b7a7efc7441117474fa7d"), looks := true }, kinds := [], alts := [], laidByText := true, laidKinds := [.listed, .data], laidTests := true, laidLooks := .later }
def SliceCountsCardSaid : Prop := Claim7.holds Tryz.pinned (.plain (OpenSpec.ofChange sliceCountsSpec)) sliceCountsCard

/-- THE SECOND FORM's CARD OF 'zoetropelaw21.SyntaxSkips'. -/
def syntaxSkipsUptoCard : Claim7 := { stood := { row := syntaxSkipsUptoRow, standIns := [], harness := (true, "8eeee292ee71231976477ad424e0277417542b1f7f6b7a7efc7441117474fa7d"), looks := true }, kinds := [], alts := [], laidByText := true, laidKinds := [.listed, .data], laidTests := true, laidLooks := .later }
def SyntaxSkipsUptoCardSaid : Prop := Claim7.holds Tryz.pinned (.plain (OpenSpec.upto syntaxSkipsSpec)) syntaxSkipsUptoCard

/-- THE SECOND FORM's CARD OF 'zoetropelaw21.SyntaxFar'. -/
def syntaxFarUptoCard : Claim7 := { stood := { row := syntaxFarUptoRow, standIns := [], harness := (true, "8eeee292ee71231976477ad424e0277417542b1f7f6b7a7efc7441117474fa7d"), looks := true }, kinds := [], alts := [], laidByText := true, laidKinds := [.listed, .data], laidTests := true, laidLooks := .later }
def SyntaxFarUptoCardSaid : Prop := Claim7.holds Tryz.pinned (.plain (OpenSpec.upto syntaxFarSpec)) syntaxFarUptoCard

/-- THE SECOND FORM's CARD OF 'zoetropelaw23.SliceCounts'. -/
def sliceCountsUptoCard : Claim7 := { stood := { row := sliceCountsUptoRow, standIns := [], harness := (true, "8eeee292ee71231976477ad424e0277417542b1f7f6b7a7efc7441117474fa7d"), looks := true }, kinds := [], alts := [], laidByText := true, laidKinds := [.listed, .data], laidTests := true, laidLooks := .later }
def SliceCountsUptoCardSaid : Prop := Claim7.holds Tryz.pinned (.plain (OpenSpec.upto sliceCountsSpec)) sliceCountsUptoCard
end Rows
end Go.Proofs.YtehahelgemljlaaGreatDoor
