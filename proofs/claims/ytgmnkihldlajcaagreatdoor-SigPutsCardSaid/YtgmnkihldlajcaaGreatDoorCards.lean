/-
  DERIVED. GIVEN WITH THE SEED: THE CARDS: each row of YtgmnkihldlajcaaGreatDoorRows.lean that lists a variable, with what it lists TIED to the program's text (the seventh form; the later family's looks); each row that meets fmt, with fmt's text TOLD by the authors' own Lean function (tested against real Go, not proved from fmt's source: count such statements apart). THE CARD IS WHAT COUNTS. Prove the row's statement (the work); the ties are given (YtgmnkihldlajcaaGreatDoorTie.lean); close each card by the builder's one call (the guide's Derived/Test/ToyasCard.lean, 'card_holds'). Laid BY PROGRAM, IN A SANDBOX (cutbox-door.mjs). By AI agents, Wed Nov 11 2026. No macro, syntax, notation, axiom, sorry.
-/
import Derived.Test.YtgmnkihldlajcaaGreatDoorRows
import GoSem.ClaimSeven
namespace Go.Proofs.YtgmnkihldlajcaaGreatDoor
namespace Rows

/-- THE TIED CARD OF 'zoetropelaw8.SigPuts'. -/
def sigPutsCard : Claim7 := { stood := { row := sigPutsRow, standIns := [], harness := (true, "5ba3bdf1cc88c791cf8407d321193af953082815b33b55dd10fca5481c838873"), looks := true }, kinds := [], alts := [], laidByText := true, laidKinds := [.listed, .data], laidTests := true, laidLooks := .later }
def SigPutsCardSaid : Prop := Claim7.holds Tryz.pinned (.plain (OpenSpec.ofChange sigPutsSpec)) sigPutsCard

/-- THE SECOND FORM's CARD OF 'zoetropelaw8.SigPuts'. -/
def sigPutsUptoCard : Claim7 := { stood := { row := sigPutsUptoRow, standIns := [], harness := (true, "5ba3bdf1cc88c791cf8407d321193af953082815b33b55dd10fca5481c838873"), looks := true }, kinds := [], alts := [], laidByText := true, laidKinds := [.listed, .data], laidTests := true, laidLooks := .later }
def SigPutsUptoCardSaid : Prop := Claim7.holds Tryz.pinned (.plain (OpenSpec.upto sigPutsSpec)) sigPutsUptoCard
end Rows
end Go.Proofs.YtgmnkihldlajcaaGreatDoor
