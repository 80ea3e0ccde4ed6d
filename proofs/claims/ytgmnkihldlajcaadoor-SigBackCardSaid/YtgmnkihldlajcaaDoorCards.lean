/-
  DERIVED. GIVEN WITH THE SEED: THE CARDS: each row of YtgmnkihldlajcaaDoorRows.lean that lists a variable, with what it lists TIED to the program's text (the seventh form; the later family's looks); each row that meets fmt, with fmt's text TOLD by the authors' own Lean function (tested against real Go, not proved from fmt's source: count such statements apart). THE CARD IS WHAT COUNTS. Prove the row's statement (the work); the ties are given (YtgmnkihldlajcaaDoorTie.lean); close each card by the builder's one call (the guide's Derived/Test/ToyasCard.lean, 'card_holds'). Laid BY PROGRAM, IN A SANDBOX (cutbox-door.mjs). By AI agents, Wed Nov 11 2026. No macro, syntax, notation, axiom, sorry.
-/
import Derived.Test.YtgmnkihldlajcaaDoorRows
import GoSem.ClaimSeven
namespace Go.Proofs.YtgmnkihldlajcaaDoor
namespace Rows

/-- THE TIED CARD OF 'zoetropelaw8.SigSmall'. -/
def sigSmallCard : Claim7 := { stood := { row := sigSmallRow, standIns := [], harness := (true, "e7482e42e31dd9621b3936057d5a0927c0e8219bf2d842799600f455ed3746a7"), looks := true }, kinds := [], alts := [], laidByText := true, laidKinds := [.listed, .data], laidTests := true, laidLooks := .later }
def SigSmallCardSaid : Prop := Claim7.holds Tryd.pinned (.plain (OpenSpec.ofChange sigSmallSpec)) sigSmallCard

/-- THE TIED CARD OF 'zoetropelaw8.SigForms'. -/
def sigFormsCard : Claim7 := { stood := { row := sigFormsRow, standIns := [], harness := (true, "e7482e42e31dd9621b3936057d5a0927c0e8219bf2d842799600f455ed3746a7"), looks := true }, kinds := [], alts := [], laidByText := true, laidKinds := [.listed, .data], laidTests := true, laidLooks := .later }
def SigFormsCardSaid : Prop := Claim7.holds Tryd.pinned (.plain (OpenSpec.ofChange sigFormsSpec)) sigFormsCard

/-- THE TIED CARD OF 'zoetropelaw8.SigBack'. -/
def sigBackCard : Claim7 := { stood := { row := sigBackRow, standIns := [], harness := (true, "e7482e42e31dd9621b3936057d5a0927c0e8219bf2d842799600f455ed3746a7"), looks := true }, kinds := [], alts := [], laidByText := true, laidKinds := [.listed, .data], laidTests := true, laidLooks := .later }
def SigBackCardSaid : Prop := Claim7.holds Tryd.pinned (.plain (OpenSpec.ofChange sigBackSpec)) sigBackCard

/-- THE SECOND FORM's CARD OF 'zoetropelaw8.SigSmall'. -/
def sigSmallUptoCard : Claim7 := { stood := { row := sigSmallUptoRow, standIns := [], harness := (true, "e7482e42e31dd9621b3936057d5a0927c0e8219bf2d842799600f455ed3746a7"), looks := true }, kinds := [], alts := [], laidByText := true, laidKinds := [.listed, .data], laidTests := true, laidLooks := .later }
def SigSmallUptoCardSaid : Prop := Claim7.holds Tryd.pinned (.plain (OpenSpec.upto sigSmallSpec)) sigSmallUptoCard

/-- THE SECOND FORM's CARD OF 'zoetropelaw8.SigForms'. -/
def sigFormsUptoCard : Claim7 := { stood := { row := sigFormsUptoRow, standIns := [], harness := (true, "e7482e42e31dd9621b3936057d5a0927c0e8219bf2d842799600f455ed3746a7"), looks := true }, kinds := [], alts := [], laidByText := true, laidKinds := [.listed, .data], laidTests := true, laidLooks := .later }
def SigFormsUptoCardSaid : Prop := Claim7.holds Tryd.pinned (.plain (OpenSpec.upto sigFormsSpec)) sigFormsUptoCard

/-- THE SECOND FORM's CARD OF 'zoetropelaw8.SigBack'. -/
def sigBackUptoCard : Claim7 := { stood := { row := sigBackUptoRow, standIns := [], harness := (true, "e7482e42e31dd9621b3936057d5a0927c0e8219bf2d842799600f455ed3746a7"), looks := true }, kinds := [], alts := [], laidByText := true, laidKinds := [.listed, .data], laidTests := true, laidLooks := .later }
def SigBackUptoCardSaid : Prop := Claim7.holds Tryd.pinned (.plain (OpenSpec.upto sigBackSpec)) sigBackUptoCard
end Rows
end Go.Proofs.YtgmnkihldlajcaaDoor
